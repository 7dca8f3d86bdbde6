/-
  Pool, plain: keywords as bits.
-/
import Derived.Test.YtclgoilfclmibaaGreatDoorM
import Derived.Laws.BitsAllLaws
set_option linter.unusedVariables false
set_option linter.unusedSimpArgs false
namespace Go.Proofs.YtclgoilfclmibaaGreatDoor
open Go

theorem and_high (x : Nat) (hx : x < 18446744073709551616) : (x &&& 18446744073709551600 = 0) ↔ x < 16 := by
  constructor
  · intro h
    have h1 : (x &&& 18446744073709551600) >>> 4 = 0 := by rw [h]; rfl
    rw [Nat.shiftRight_and_distrib, show (18446744073709551600 : Nat) >>> 4 = 2 ^ 60 - 1 by decide, Nat.and_two_pow_sub_one_eq_mod, Nat.shiftRight_eq_div_pow] at h1
    have h2 : x / 2 ^ 4 < 2 ^ 60 := by omega
    rw [Nat.mod_eq_of_lt h2] at h1
    omega
  · intro h
    have : ∀ y : Fin 16, y.1 &&& 18446744073709551600 = 0 := by decide
    exact this ⟨x, h⟩
theorem wrap_zero (n : Nat) (h : n < 18446744073709551616) : (IntKind.i64.wrap (n : Int) = 0) ↔ n = 0 := by
  simp [IntKind.wrap, IntKind.bits, IntKind.signed]
  split <;> omega
theorem keys_bits (k : Int) (h0 : -9223372036854775808 ≤ k) (h1 : k ≤ 9223372036854775807) : (bits .andNot .i64 k 15 == 0) = keysB k := by
  have hx : (BitVec.ofInt 64 k).toNat = (k % 18446744073709551616).toNat := by simp
  have hlt : (k % 18446744073709551616).toNat < 18446744073709551616 := by omega
  have e : bits .andNot .i64 k 15 = IntKind.i64.wrap (((k % 18446744073709551616).toNat &&& 18446744073709551600 : Nat) : Int) := by
    show IntKind.i64.wrap ((BitVec.ofInt 64 k &&& ~~~BitVec.ofInt 64 15).toNat : Int) = _
    have h15 : (BitVec.ofInt 64 15).toNat = 15 := by decide
    rw [BitVec.toNat_and, BitVec.toNat_not, hx, h15]
  have hle : (k % 18446744073709551616).toNat &&& 18446744073709551600 < 18446744073709551616 := Nat.lt_of_le_of_lt Nat.and_le_left hlt
  rw [e]
  have h2 := wrap_zero _ hle
  have h3 := and_high _ hlt
  unfold keysB
  by_cases h : 0 ≤ k ∧ k ≤ 15
  · have h4 : (k % 18446744073709551616).toNat < 16 := by omega
    rw [h2.2 (h3.2 h4)]
    simp [h.1, h.2]
  · have h4 : ¬ (k % 18446744073709551616).toNat < 16 := by omega
    have h5 : IntKind.i64.wrap (((k % 18446744073709551616).toNat &&& 18446744073709551600 : Nat) : Int) ≠ 0 := fun e => h4 (h3.1 (h2.1 e))
    rw [beq_false_of_ne h5]
    have : ¬ (0 ≤ k) ∨ ¬ (k ≤ 15) := by omega
    rcases this with h6 | h6 <;> simp [h6]
end Go.Proofs.YtclgoilfclmibaaGreatDoor
