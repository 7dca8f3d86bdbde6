/-
  Ticks: plain laws on decimal texts: what is written is read again.
-/
import Derived.Lib.ItoaNum
import Derived.Lib.ParseIntB
import Derived.Lib.ParseIntBCases
import Derived.Lib.Strings
namespace Go.Proofs.YtchoepcfaadpfaaDoor
open Go.Lib

def neverT : List UInt8 := [110, 101, 118, 101, 114]
/-- the text of a time -/
def txt (t : Nat) : List UInt8 := if t = 18446744073709551615 then neverT else decDigits t ++ [116]

theorem dec_small {u : Nat} (h : u < 10) : decDigits u = [UInt8.ofNat (48 + u)] := by rw [decDigits, dif_pos h]
theorem dec_big {u : Nat} (h : ¬ u < 10) : decDigits u = decDigits (u / 10) ++ [UInt8.ofNat (48 + u % 10)] := by rw [decDigits, dif_neg h]
theorem digit_toNat {d : Nat} (h : d < 10) : (UInt8.ofNat (48 + d)).toNat = 48 + d := by rw [UInt8.toNat_ofNat']; omega

theorem parse_dec_r (u : Nat) (hu : u ≤ 18446744073709551615) (r : List UInt8) : parseUintM 18446744073709551615 0 (decDigits u ++ r) = parseUintM 18446744073709551615 u r := by
  induction u using Nat.strongRecOn generalizing r with
  | ind u ih =>
    by_cases h : u < 10
    · rw [dec_small h]
      simp only [List.cons_append, List.nil_append, parseUintM, digit_toNat h]
      rw [if_pos (by omega), if_neg (by omega), if_neg (by omega)]
      congr 1
      omega
    · rw [dec_big h, List.append_assoc, ih (u / 10) (by omega) (by omega)]
      have hd : u % 10 < 10 := by omega
      simp only [List.cons_append, List.nil_append, parseUintM, digit_toNat hd]
      rw [if_pos (by omega), if_neg (by omega), if_neg (by omega)]
      congr 1
      omega
theorem dec_ne (u : Nat) : decDigits u ≠ [] := fun h => by
  have := congrArg List.length h
  rw [decDigits_length] at this
  have := nDigits_pos u
  simp at *
  omega
theorem parse_dec (u : Nat) (hu : u ≤ 18446744073709551615) : parseUintB 64 (decDigits u) = .ok u := by
  unfold parseUintB
  rw [if_neg (dec_ne u)]
  have := parse_dec_r u hu []
  rw [List.append_nil] at this
  exact this
theorem trim_dec (u : Nat) : trimSuffix (decDigits u ++ [116]) [116] = decDigits u := by
  unfold trimSuffix hasSuffix
  rw [if_pos (by simp)]
  simp
theorem txt_never : txt 18446744073709551615 = neverT := if_pos rfl
theorem txt_num {t : Nat} (h : t ≠ 18446744073709551615) : txt t = decDigits t ++ [116] := if_neg h
theorem num_ne_never (t : Nat) : decDigits t ++ [116] ≠ neverT := fun h => by
  have := congrArg List.getLast? h
  simp [neverT] at this

/-- what the reference reads: at most so many digits -/
def scan : Nat → Nat → List UInt8 → Nat
  | n, 0, _ => n
  | n, _ + 1, [] => n
  | n, k + 1, c :: r => if 48 ≤ c.toNat ∧ c.toNat ≤ 57 then scan ((10 * n + (c.toNat - 48)) % 18446744073709551616) k r else n
theorem scan_lt : ∀ (l : List UInt8) (n k : Nat), n < 18446744073709551616 → scan n k l < 18446744073709551616
  | [], n, 0, h => h
  | [], n, k + 1, h => h
  | c :: r, n, 0, h => h
  | c :: r, n, k + 1, h => by
    unfold scan
    split
    · exact scan_lt r _ k (Nat.mod_lt _ (by decide))
    · exact h
theorem scan_dec_r (u : Nat) (hu : u ≤ 18446744073709551615) (k : Nat) (r : List UInt8) (hk : nDigits u ≤ k) : scan 0 k (decDigits u ++ r) = scan u (k - nDigits u) r := by
  induction u using Nat.strongRecOn generalizing r k with
  | ind u ih =>
    by_cases h : u < 10
    · rw [dec_small h]
      rw [nDigits_small h] at hk ⊢
      obtain ⟨k, rfl⟩ : ∃ k', k = k' + 1 := ⟨k - 1, by omega⟩
      simp only [List.cons_append, List.nil_append, scan, digit_toNat h]
      rw [if_pos (by omega)]
      congr 1
      omega
    · rw [nDigits_big h] at hk ⊢
      rw [dec_big h, List.append_assoc, ih (u / 10) (by omega) (by omega) k _ (by omega)]
      obtain ⟨m, hm⟩ : ∃ m, k - nDigits (u / 10) = m + 1 := ⟨k - nDigits (u / 10) - 1, by omega⟩
      have hd : u % 10 < 10 := by omega
      rw [hm]
      simp only [List.cons_append, List.nil_append, scan, digit_toNat hd]
      rw [if_pos (by omega)]
      have e1 : (10 * (u / 10) + (48 + u % 10 - 48)) % 18446744073709551616 = u := by omega
      have e2 : k - (nDigits (u / 10) + 1) = m := by omega
      rw [e1, e2]
theorem nDigits_le20 (u : Nat) (h : u < 18446744073709551616) : nDigits u ≤ 20 := by
  rcases Nat.lt_or_ge 20 (nDigits u) with hlt | hge
  · exfalso
    have key : ∀ (k v : Nat), nDigits v = k + 1 → 10 ^ k ≤ v ∨ v = 0 := by
      intro k
      induction k with
      | zero => intro v _; omega
      | succ k ih =>
        intro v hv
        by_cases h10 : v < 10
        · rw [nDigits_small h10] at hv; omega
        · rw [nDigits_big h10] at hv
          rcases ih (v / 10) (by omega) with h1 | h1
          · left
            rw [Nat.pow_succ]
            omega
          · omega
    obtain ⟨k, hk⟩ : ∃ k, nDigits u = k + 1 := ⟨nDigits u - 1, by omega⟩
    rcases key k u hk with h1 | h1
    · have h2 : 10 ^ 20 ≤ 10 ^ k := Nat.pow_le_pow_right (by decide) (by omega)
      have h3 : (10 : Nat) ^ 20 = 100000000000000000000 := by decide
      omega
    · subst h1
      rw [nDigits_small (by decide)] at hlt
      omega
  · exact hge
theorem scan_dec (u : Nat) (hu : u ≤ 18446744073709551615) : scan 0 20 (decDigits u ++ [116]) = u := by
  rw [scan_dec_r u hu 20 [116] (nDigits_le20 u (by omega))]
  cases (20 - nDigits u) with
  | zero => rfl
  | succ m =>
    unfold scan
    rw [if_neg (by decide)]
theorem txt_length (t : Nat) (h : t ≤ 18446744073709551615) : (txt t).length ≤ 21 := by
  unfold txt
  split
  · decide
  · rw [List.length_append, decDigits_length]
    have := nDigits_le20 t (by omega)
    simp
    omega
end Go.Proofs.YtchoepcfaadpfaaDoor
