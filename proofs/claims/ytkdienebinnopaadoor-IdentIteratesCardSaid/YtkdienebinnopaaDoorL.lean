/-
  Ident: plain laws on words of bits.
-/
import Derived.Lib.TrailingZeros
namespace Go.Proofs.YtkdienebinnopaaDoor

/-- the low k bits of what is taken behind b -/
def wdn (t : Nat → Bool) (b : Nat) : Nat → Nat
  | 0 => 0
  | k + 1 => 2 ^ k * (t (b + k + 1)).toNat + wdn t b k
def wd (t : Nat → Bool) (i : Nat) : Nat := wdn t (64 * i) 64
theorem wdn_lt (t : Nat → Bool) (b : Nat) : ∀ k, wdn t b k < 2 ^ k
  | 0 => by simp [wdn]
  | k + 1 => by
    have := wdn_lt t b k
    have h2 : 2 ^ (k + 1) = 2 ^ k + 2 ^ k := by rw [Nat.pow_succ]; omega
    unfold wdn
    cases t (b + k + 1) <;> simp <;> omega
theorem wdn_bit (t : Nat → Bool) (b : Nat) : ∀ k j, (wdn t b k).testBit j = (decide (j < k) && t (b + j + 1))
  | 0, j => by simp [wdn]
  | k + 1, j => by
    have hlt := wdn_lt t b k
    unfold wdn
    rw [Nat.testBit_two_pow_mul_add _ hlt]
    by_cases h : j < k
    · rw [if_pos h, wdn_bit t b k j]
      have : j < k + 1 := by omega
      simp [h, this]
    · rw [if_neg h]
      by_cases e : j = k
      · subst e
        cases t (b + j + 1) <;> simp
      · have h1 : ¬ j < k + 1 := by omega
        have h2 : j - k ≠ 0 := by omega
        obtain ⟨m, hm⟩ : ∃ m, j - k = m + 1 := ⟨j - k - 1, by omega⟩
        rw [hm]
        cases t (b + k + 1) <;> simp [h1, Nat.testBit_succ]
theorem wd_lt (t : Nat → Bool) (i : Nat) : wd t i < 18446744073709551616 := wdn_lt t (64 * i) 64
theorem wd_bit (t : Nat → Bool) (i j : Nat) : (wd t i).testBit j = (decide (j < 64) && t (64 * i + j + 1)) := wdn_bit t (64 * i) 64 j
/-- one more, or one fewer -/
def put (t : Nat → Bool) (id : Nat) (v : Bool) : Nat → Bool := fun m => if m = id then v else t m
theorem wd_or (t : Nat → Bool) (i j : Nat) (hj : j < 64) : wd (put t (64 * i + j + 1) true) i = wd t i ||| 2 ^ j := by
  apply Nat.eq_of_testBit_eq
  intro k
  rw [Nat.testBit_or, wd_bit, wd_bit, Nat.testBit_two_pow]
  unfold put
  by_cases e : k = j
  · subst e; simp [hj]
  · have h1 : ¬ 64 * i + k + 1 = 64 * i + j + 1 := by omega
    have h2 : ¬ j = k := fun h => e h.symm
    simp [h1, h2, e]
theorem wd_other (t : Nat → Bool) (i j i' : Nat) (v : Bool) (hj : j < 64) (h : i' ≠ i) : wd (put t (64 * i + j + 1) v) i' = wd t i' := by
  apply Nat.eq_of_testBit_eq
  intro k
  rw [wd_bit, wd_bit]
  unfold put
  by_cases hk : k < 64
  · have h1 : ¬ 64 * i' + k + 1 = 64 * i + j + 1 := by omega
    rw [if_neg h1]
  · simp [hk]
theorem wd_andNot (t : Nat → Bool) (i j : Nat) (hj : j < 64) : wd (put t (64 * i + j + 1) false) i = wd t i &&& (18446744073709551615 - 2 ^ j) := by
  have hp : 2 ^ j < 2 ^ 64 := Nat.pow_lt_pow_right (by decide) hj
  have e : 18446744073709551615 - 2 ^ j = 2 ^ 64 - (2 ^ j + 1) := by omega
  apply Nat.eq_of_testBit_eq
  intro k
  rw [e, Nat.testBit_and, wd_bit, wd_bit, Nat.testBit_two_pow_sub_succ hp, Nat.testBit_two_pow]
  unfold put
  by_cases ek : k = j
  · subst ek; simp
  · have h1 : ¬ 64 * i + k + 1 = 64 * i + j + 1 := by omega
    have h2 : ¬ j = k := fun h => ek h.symm
    by_cases hk : k < 64 <;> simp [h1, h2, hk, ek]
theorem wd_and (t : Nat → Bool) (i j : Nat) (hj : j < 64) : (wd t i &&& 2 ^ j == 0) = !t (64 * i + j + 1) := by
  have hb : ∀ k, (wd t i &&& 2 ^ j).testBit k = (decide (k = j) && t (64 * i + j + 1)) := fun k => by
    rw [Nat.testBit_and, wd_bit, Nat.testBit_two_pow]
    by_cases e : k = j
    · subst e; simp [hj]
    · have h2 : ¬ j = k := fun h => e h.symm
      simp [e, h2]
  cases ht : t (64 * i + j + 1)
  · have : wd t i &&& 2 ^ j = 0 := by
      apply Nat.eq_of_testBit_eq
      intro k
      rw [hb, ht]
      simp
    simp [this]
  · have : wd t i &&& 2 ^ j ≠ 0 := fun h => by
      have h1 := hb j
      rw [h, ht] at h1
      simp at h1
    simp [this]
theorem wd_none (i : Nat) : wd (fun _ => false) i = 0 := by
  apply Nat.eq_of_testBit_eq
  intro k
  rw [wd_bit]
  simp
/-- the complement of a word -/
theorem com_bit (t : Nat → Bool) (i j : Nat) (hj : j < 64) : (18446744073709551615 - wd t i).testBit j = !t (64 * i + j + 1) := by
  have e : 18446744073709551615 - wd t i = 2 ^ 64 - (wd t i + 1) := by omega
  rw [e, Nat.testBit_two_pow_sub_succ (wd_lt t i), wd_bit]
  simp [hj]
theorem com_zero (t : Nat → Bool) (i : Nat) (h : 18446744073709551615 - wd t i = 0) (j : Nat) (hj : j < 64) : t (64 * i + j + 1) = true := by
  have := com_bit t i j hj
  rw [h] at this
  simpa using this
/-- the least free one of a word -/
theorem com_ctz (t : Nat → Bool) (i : Nat) (h : 18446744073709551615 - wd t i ≠ 0) :
    Lib.ctz 64 (18446744073709551615 - wd t i) < 64 ∧ t (64 * i + Lib.ctz 64 (18446744073709551615 - wd t i) + 1) = false ∧ ∀ j, j < Lib.ctz 64 (18446744073709551615 - wd t i) → t (64 * i + j + 1) = true := by
  have hx : 18446744073709551615 - wd t i < 2 ^ 64 := by omega
  obtain ⟨m, hm, hc⟩ := Lib.ctzFrom_spec 64 (18446744073709551615 - wd t i) (by omega) hx
  have e : Lib.ctz 64 (18446744073709551615 - wd t i) = Lib.ctzFrom 64 (18446744073709551615 - wd t i) := by unfold Lib.ctz; rw [if_neg h]
  rw [e]
  generalize Lib.ctzFrom 64 (18446744073709551615 - wd t i) = c at hm hc
  have hb : ∀ j, (18446744073709551615 - wd t i).testBit j = if j < c then false else (2 * m + 1).testBit (j - c) := fun j => by
    rw [hm]
    have := Nat.testBit_two_pow_mul_add (2 * m + 1) (show 0 < 2 ^ c from Nat.pow_pos (by decide)) j
    rw [Nat.add_zero] at this
    rw [this]
    simp
  refine ⟨hc, ?_, fun j hj => ?_⟩
  · have h1 := com_bit t i c hc
    rw [hb c, if_neg (Nat.lt_irrefl c)] at h1
    simp [Nat.testBit_zero] at h1
    exact h1
  · have h1 := com_bit t i j (by omega)
    rw [hb j, if_pos hj] at h1
    simpa using h1.symm
/-- 'w | (w + 1)' takes it -/
theorem wd_succ (t : Nat → Bool) (i c : Nat) (hc : c < 64) (h0 : t (64 * i + c + 1) = false) (h1 : ∀ j, j < c → t (64 * i + j + 1) = true) : wd t i ||| (wd t i + 1) = wd (put t (64 * i + c + 1) true) i ∧ wd t i + 1 < 18446744073709551616 := by
  rw [wd_or t i c hc]
  have hmod : wd t i % 2 ^ (c + 1) = 2 ^ c - 1 := by
    apply Nat.eq_of_testBit_eq
    intro k
    rw [Nat.testBit_mod_two_pow, wd_bit, Nat.testBit_two_pow_sub_one]
    by_cases hk : k < c
    · have h2 : k < c + 1 := by omega
      have h3 : k < 64 := by omega
      simp [hk, h2, h3, h1 k hk]
    · by_cases e : k = c
      · subst e; simp [h0]
      · have h2 : ¬ k < c + 1 := by omega
        simp [hk, h2]
  have hp : 0 < 2 ^ c := Nat.pow_pos (by decide)
  have hp2 : 2 ^ (c + 1) = 2 ^ c + 2 ^ c := by rw [Nat.pow_succ]; omega
  have hw : wd t i = 2 ^ (c + 1) * (wd t i / 2 ^ (c + 1)) + (2 ^ c - 1) := by
    rw [← hmod]; exact (Nat.div_add_mod _ _).symm
  generalize wd t i / 2 ^ (c + 1) = q at hw
  have hw1 : wd t i + 1 = 2 ^ (c + 1) * q + 2 ^ c := by omega
  refine ⟨?_, ?_⟩
  · apply Nat.eq_of_testBit_eq
    intro k
    rw [Nat.testBit_or, Nat.testBit_or, hw1]
    rw [Nat.testBit_two_pow_mul_add q (show 2 ^ c < 2 ^ (c + 1) by omega)]
    conv => lhs; rw [hw]
    conv => rhs; rw [hw]
    rw [Nat.testBit_two_pow_mul_add q (show 2 ^ c - 1 < 2 ^ (c + 1) by omega)]
    by_cases hk : k < c + 1
    · simp only [if_pos hk]
    · simp only [if_neg hk, Nat.testBit_two_pow]
      have : ¬ c = k := by omega
      simp [this]
  · have hlt := wd_lt t i
    rcases Nat.lt_or_ge (wd t i + 1) 18446744073709551616 with h | h
    · exact h
    · exfalso
      have e : wd t i = 2 ^ 64 - 1 := by omega
      have := wd_bit t i c
      rw [h0, e, Nat.testBit_two_pow_sub_one] at this
      simp [hc] at this
/-- how many of the first n are taken -/
def cnt (t : Nat → Bool) : Nat → Nat
  | 0 => 0
  | n + 1 => cnt t n + (t (n + 1)).toNat
theorem cnt_le (t : Nat → Bool) : ∀ n, cnt t n ≤ n
  | 0 => Nat.le_refl _
  | n + 1 => by have := cnt_le t n; have := Bool.toNat_le (t (n + 1)); unfold cnt; omega
theorem cnt_mono (t : Nat → Bool) {a b : Nat} (h : a ≤ b) : cnt t a ≤ cnt t b := by
  induction b with
  | zero => have : a = 0 := by omega
            subst this; exact Nat.le_refl _
  | succ b ih =>
    by_cases e : a = b + 1
    · subst e; exact Nat.le_refl _
    · have := ih (by omega)
      have : cnt t b ≤ cnt t (b + 1) := Nat.le_add_right _ _
      omega
theorem cnt_none {t : Nat → Bool} {a b : Nat} (hab : a ≤ b) (h : ∀ m, a < m → m ≤ b → t m = false) : cnt t b = cnt t a := by
  induction b with
  | zero => have : a = 0 := by omega
            subst this; rfl
  | succ b ih =>
    by_cases e : a = b + 1
    · subst e; rfl
    · rw [← ih (by omega) (fun m h1 h2 => h m h1 (by omega))]
      show cnt t b + (t (b + 1)).toNat = cnt t b
      rw [h (b + 1) (by omega) (Nat.le_refl _)]
      rfl
/-- the sum of the low bits -/
def popb (x : Nat) : Nat → Nat
  | 0 => 0
  | k + 1 => popb x k + (x.testBit k).toNat
theorem popb_congr {x y : Nat} : ∀ {k : Nat}, (∀ j, j < k → x.testBit j = y.testBit j) → popb x k = popb y k
  | 0, _ => rfl
  | k + 1, h => by unfold popb; rw [popb_congr (fun j hj => h j (by omega)), h k (by omega)]
theorem popb_add (x a : Nat) : ∀ b, popb x (a + b) = popb x a + popb (x / 2 ^ a) b
  | 0 => rfl
  | b + 1 => by
    show popb x (a + b) + (x.testBit (a + b)).toNat = popb x a + (popb (x / 2 ^ a) b + ((x / 2 ^ a).testBit b).toNat)
    rw [popb_add x a b, Nat.testBit_div_two_pow]
    have e : b + a = a + b := by omega
    rw [e]
    omega
theorem popb_wd (t : Nat → Bool) (i : Nat) : ∀ k, k ≤ 64 → cnt t (64 * i) + popb (wd t i) k = cnt t (64 * i + k)
  | 0, _ => rfl
  | k + 1, h => by
    have ih := popb_wd t i k (by omega)
    show cnt t (64 * i) + (popb (wd t i) k + ((wd t i).testBit k).toNat) = cnt t (64 * i + k) + (t (64 * i + k + 1)).toNat
    rw [wd_bit]
    have hk : k < 64 := by omega
    simp only [hk, decide_true, Bool.true_and]
    omega
/-- the three masks of so many bytes -/
def msk (c : Nat) : Nat → Nat
  | 0 => 0
  | n + 1 => 2 ^ 8 * msk c n + c
theorem and_split (y z b c : Nat) (hb : b < 256) (hc : c < 256) : (2 ^ 8 * y + b) &&& (2 ^ 8 * z + c) = 2 ^ 8 * (y &&& z) + (b &&& c) := by
  have hbc : b &&& c < 256 := Nat.lt_of_le_of_lt Nat.and_le_left hb
  apply Nat.eq_of_testBit_eq
  intro k
  rw [Nat.testBit_and, Nat.testBit_two_pow_mul_add y hb, Nat.testBit_two_pow_mul_add z hc, Nat.testBit_two_pow_mul_add _ hbc]
  split <;> simp [Nat.testBit_and]
def f1 (n x : Nat) : Nat := (x / 2 &&& msk 85 n) + (x &&& msk 85 n)
def f2 (n x : Nat) : Nat := (x / 4 &&& msk 51 n) + (x &&& msk 51 n)
def f3 (n x : Nat) : Nat := (x / 16 + x) &&& msk 15 n
theorem g1_fin : ∀ b : Fin 256, ∀ r : Fin 2, ((b.1 + 256 * r.1) / 2 % 256 &&& 85) = (b.1 / 2 &&& 85) ∧ (b.1 / 2 &&& 85) + (b.1 &&& 85) < 256 := by decide +kernel
theorem g2_fin : ∀ b : Fin 256, ∀ r : Fin 4, ((b.1 + 256 * r.1) / 4 % 256 &&& 51) = (b.1 / 4 &&& 51) ∧ (b.1 / 4 &&& 51) + (b.1 &&& 51) < 256 := by decide +kernel
theorem f1_step (n y b : Nat) (hb : b < 256) : f1 (n + 1) (2 ^ 8 * y + b) = 2 ^ 8 * f1 n y + f1 1 b := by
  have hg : ((b + 256 * (y % 2)) / 2 % 256 &&& 85) = (b / 2 &&& 85) := (g1_fin ⟨b, hb⟩ ⟨y % 2, by omega⟩).1
  have e1 : (2 ^ 8 * y + b) / 2 = 2 ^ 8 * (y / 2) + (b + 256 * (y % 2)) / 2 % 256 := by omega
  have e0 : b / 2 = 2 ^ 8 * 0 + b / 2 := by omega
  have e2 : msk 85 1 = 85 := rfl
  unfold f1
  rw [e2, e1]
  show (_ &&& (2 ^ 8 * msk 85 n + 85)) + (_ &&& (2 ^ 8 * msk 85 n + 85)) = _
  rw [and_split _ _ _ _ (by omega) (by decide), and_split _ _ _ _ hb (by decide), hg]
  omega
theorem f2_step (n y b : Nat) (hb : b < 256) : f2 (n + 1) (2 ^ 8 * y + b) = 2 ^ 8 * f2 n y + f2 1 b := by
  have hg : ((b + 256 * (y % 4)) / 4 % 256 &&& 51) = (b / 4 &&& 51) := (g2_fin ⟨b, hb⟩ ⟨y % 4, by omega⟩).1
  have e1 : (2 ^ 8 * y + b) / 4 = 2 ^ 8 * (y / 4) + (b + 256 * (y % 4)) / 4 % 256 := by omega
  have e2 : msk 51 1 = 51 := rfl
  unfold f2
  rw [e2, e1]
  show (_ &&& (2 ^ 8 * msk 51 n + 51)) + (_ &&& (2 ^ 8 * msk 51 n + 51)) = _
  rw [and_split _ _ _ _ (by omega) (by decide), and_split _ _ _ _ hb (by decide), hg]
  omega
/-- both halves of a byte are at most 4 -/
def Low (x : Nat) : Prop := x % 16 ≤ 4 ∧ x / 16 % 16 ≤ 4
theorem g3_fin : ∀ p : Fin 5, ∀ q : Fin 5, ((p.1 + q.1) + 16 * (q.1 + 0) &&& 15) = (p.1 + q.1) ∧ ∀ r : Fin 5, ((p.1 + q.1) + 16 * (q.1 + r.1) &&& 15) = p.1 + q.1 := by decide +kernel
theorem f3_step (n y b : Nat) (hb : b < 256) (hl : Low b) (hy : y % 16 ≤ 4) : f3 (n + 1) (2 ^ 8 * y + b) = 2 ^ 8 * f3 n y + f3 1 b := by
  obtain ⟨h1, h2⟩ := hl
  have hb2 : b / 16 < 16 := by omega
  have hg := g3_fin ⟨b % 16, by omega⟩ ⟨b / 16, by omega⟩
  have hg2 := hg.2 ⟨y % 16, by omega⟩
  have e1 : (2 ^ 8 * y + b) / 16 + (2 ^ 8 * y + b) = 2 ^ 8 * (y / 16 + y) + (b % 16 + b / 16 + 16 * (b / 16 + y % 16)) := by omega
  have e2 : b / 16 + b = b % 16 + b / 16 + 16 * (b / 16 + 0) := by omega
  have e3 : msk 15 1 = 15 := rfl
  unfold f3
  rw [e1, e2, e3]
  show _ &&& (2 ^ 8 * msk 15 n + 15) = _
  rw [and_split _ _ _ _ (by omega) (by decide), hg2, hg.1]
theorem byte_fin : ∀ b : Fin 256, f3 1 (f2 1 (f1 1 b.1)) = popb b.1 8 ∧ Low (f2 1 (f1 1 b.1)) ∧ f2 1 (f1 1 b.1) < 256 ∧ f1 1 b.1 < 256 := by unfold Low; decide +kernel
/-- the bytes' sums, side by side -/
def pops : Nat → Nat → Nat
  | 0, _ => 0
  | n + 1, x => 2 ^ 8 * pops n (x / 2 ^ 8) + popb (x % 2 ^ 8) 8
theorem swar (n : Nat) : ∀ x, x < 2 ^ (8 * n) → f3 n (f2 n (f1 n x)) = pops n x ∧ f2 n (f1 n x) % 16 ≤ 4 := by
  induction n with
  | zero =>
    intro x hx
    simp at hx
    subst hx
    exact ⟨rfl, by decide⟩
  | succ n ih =>
    intro x hx
    have hb : x % 256 < 256 := Nat.mod_lt _ (by decide)
    have hy : x / 256 < 2 ^ (8 * n) := by
      rw [Nat.div_lt_iff_lt_mul (by decide)]
      have : 2 ^ (8 * (n + 1)) = 2 ^ (8 * n) * 256 := by rw [show 8 * (n + 1) = 8 * n + 8 by omega, Nat.pow_add]
      omega
    obtain ⟨h1, h2⟩ := ih (x / 256) hy
    obtain ⟨g1, g2, g3, g4⟩ : f3 1 (f2 1 (f1 1 (x % 256))) = popb (x % 256) 8 ∧ Low (f2 1 (f1 1 (x % 256))) ∧ f2 1 (f1 1 (x % 256)) < 256 ∧ f1 1 (x % 256) < 256 := byte_fin ⟨x % 256, hb⟩
    have ex : x = 2 ^ 8 * (x / 256) + x % 256 := by omega
    have e1 : f2 (n + 1) (f1 (n + 1) x) = 2 ^ 8 * f2 n (f1 n (x / 256)) + f2 1 (f1 1 (x % 256)) := by
      conv => lhs; rw [ex]
      rw [f1_step n _ _ hb, f2_step n _ _ g4]
    rw [e1]
    refine ⟨?_, by have := g2.1; omega⟩
    rw [f3_step n _ _ g3 g2 h2, h1]
    show _ = 2 ^ 8 * pops n (x / 256) + popb (x % 256) 8
    rw [g1]
def tot : Nat → Nat → Nat
  | 0, _ => 0
  | n + 1, x => tot n (x / 2 ^ 8) + popb (x % 2 ^ 8) 8
theorem popb_mod (x k : Nat) : popb (x % 2 ^ k) k = popb x k := popb_congr fun j hj => by
  rw [Nat.testBit_mod_two_pow]
  simp [hj]
theorem popb_tot (n : Nat) : ∀ x, popb x (8 * n) = tot n x := by
  induction n with
  | zero => intro x; rfl
  | succ n ih =>
    intro x
    have e : 8 * (n + 1) = 8 + 8 * n := by omega
    rw [e, popb_add, ih]
    show popb x 8 + tot n (x / 2 ^ 8) = tot n (x / 2 ^ 8) + popb (x % 2 ^ 8) 8
    rw [popb_mod]
    omega
theorem popb_le (x : Nat) : ∀ k, popb x k ≤ k
  | 0 => Nat.le_refl _
  | k + 1 => by have := popb_le x k; have := Bool.toNat_le (x.testBit k); unfold popb; omega
/-- the number of ones of a word, as the library reckons it -/
theorem ones_law (x : Nat) (hx : x < 18446744073709551616) (x3 x4 x5 x6 : Nat) (h3 : f3 8 (f2 8 (f1 8 x)) = x3) (h4 : x3 + x3 / 256 = x4) (h5 : x4 + x4 / 65536 = x5) (h6 : x5 + x5 / 4294967296 = x6) :
    x6 % 128 = popb x 64 ∧ x4 < 18446744073709551616 ∧ x5 < 18446744073709551616 ∧ x6 < 9223372036854775808 := by
  have hs := (swar 8 x hx).1
  rw [h3] at hs
  have ht : popb x 64 = tot 8 x := popb_tot 8 x
  rw [ht]
  simp only [pops, tot] at hs ⊢
  have b0 := popb_le (x % 2 ^ 8) 8
  have b1 := popb_le (x / 2 ^ 8 % 2 ^ 8) 8
  have b2 := popb_le (x / 2 ^ 8 / 2 ^ 8 % 2 ^ 8) 8
  have b3 := popb_le (x / 2 ^ 8 / 2 ^ 8 / 2 ^ 8 % 2 ^ 8) 8
  have b4 := popb_le (x / 2 ^ 8 / 2 ^ 8 / 2 ^ 8 / 2 ^ 8 % 2 ^ 8) 8
  have b5 := popb_le (x / 2 ^ 8 / 2 ^ 8 / 2 ^ 8 / 2 ^ 8 / 2 ^ 8 % 2 ^ 8) 8
  have b6 := popb_le (x / 2 ^ 8 / 2 ^ 8 / 2 ^ 8 / 2 ^ 8 / 2 ^ 8 / 2 ^ 8 % 2 ^ 8) 8
  have b7 := popb_le (x / 2 ^ 8 / 2 ^ 8 / 2 ^ 8 / 2 ^ 8 / 2 ^ 8 / 2 ^ 8 / 2 ^ 8 % 2 ^ 8) 8
  generalize popb (x % 2 ^ 8) 8 = p0 at *
  generalize popb (x / 2 ^ 8 % 2 ^ 8) 8 = p1 at *
  generalize popb (x / 2 ^ 8 / 2 ^ 8 % 2 ^ 8) 8 = p2 at *
  generalize popb (x / 2 ^ 8 / 2 ^ 8 / 2 ^ 8 % 2 ^ 8) 8 = p3 at *
  generalize popb (x / 2 ^ 8 / 2 ^ 8 / 2 ^ 8 / 2 ^ 8 % 2 ^ 8) 8 = p4 at *
  generalize popb (x / 2 ^ 8 / 2 ^ 8 / 2 ^ 8 / 2 ^ 8 / 2 ^ 8 % 2 ^ 8) 8 = p5 at *
  generalize popb (x / 2 ^ 8 / 2 ^ 8 / 2 ^ 8 / 2 ^ 8 / 2 ^ 8 / 2 ^ 8 % 2 ^ 8) 8 = p6 at *
  generalize popb (x / 2 ^ 8 / 2 ^ 8 / 2 ^ 8 / 2 ^ 8 / 2 ^ 8 / 2 ^ 8 / 2 ^ 8 % 2 ^ 8) 8 = p7 at *
  clear hx h3 ht
  have e3 : x3 = p0 + 256 * (p1 + 256 * (p2 + 256 * (p3 + 256 * (p4 + 256 * (p5 + 256 * (p6 + 256 * p7)))))) := by omega
  have d3 : x3 / 256 = p1 + 256 * (p2 + 256 * (p3 + 256 * (p4 + 256 * (p5 + 256 * (p6 + 256 * p7))))) := by omega
  clear hs
  have e4 : x4 = (p0 + p1) + 256 * ((p1 + p2) + 256 * ((p2 + p3) + 256 * ((p3 + p4) + 256 * ((p4 + p5) + 256 * ((p5 + p6) + 256 * ((p6 + p7) + 256 * p7)))))) := by omega
  have d4 : x4 / 65536 = (p2 + p3) + 256 * ((p3 + p4) + 256 * ((p4 + p5) + 256 * ((p5 + p6) + 256 * ((p6 + p7) + 256 * p7)))) := by omega
  have e5 : x5 = (p0 + p1 + p2 + p3) + 256 * ((p1 + p2 + p3 + p4) + 256 * ((p2 + p3 + p4 + p5) + 256 * ((p3 + p4 + p5 + p6) + 256 * ((p4 + p5 + p6 + p7) + 256 * ((p5 + p6 + p7) + 256 * ((p6 + p7) + 256 * p7)))))) := by omega
  have d5 : x5 / 4294967296 = (p4 + p5 + p6 + p7) + 256 * ((p5 + p6 + p7) + 256 * ((p6 + p7) + 256 * p7)) := by omega
  have e6 : x6 = (p0 + p1 + p2 + p3 + p4 + p5 + p6 + p7) + 256 * ((p1 + p2 + p3 + p4 + p5 + p6 + p7) + 256 * ((p2 + p3 + p4 + p5 + p6 + p7) + 256 * ((p3 + p4 + p5 + p6 + p7) + 256 * ((p4 + p5 + p6 + p7) + 256 * ((p5 + p6 + p7) + 256 * ((p6 + p7) + 256 * p7)))))) := by omega
  refine ⟨?_, ?_, ?_, ?_⟩
  · omega
  · omega
  · omega
  · omega
attribute [irreducible] wd
end Go.Proofs.YtkdienebinnopaaDoor
