/-
  Mana, the plain law: the text of a cost, and how two readers find the cost again. No program in sight.
-/
import Derived.Lib.AtoiAll
import Derived.Lib.ItoaNum
import Derived.Lib.SlTrimSet
set_option linter.unusedVariables false
set_option linter.unusedSimpArgs false
namespace Go.Zm
open Go

def digits : List UInt8 := [48, 49, 50, 51, 52, 53, 54, 55, 56, 57]
def lets (a b c d : Nat) : List UInt8 := List.replicate a 69 ++ (List.replicate b 84 ++ (List.replicate c 76 ++ List.replicate d 83))
def digs (z : Bool) (g : Nat) : List UInt8 := if g = 0 then (if z then [48] else []) else Lib.decDigits g
def costT (a b c d g : Nat) : List UInt8 := digs (a == 0 && b == 0 && c == 0 && d == 0) g ++ lets a b c d

theorem dec_lt (g : Nat) (h : g < 100) : Lib.decDigits g = if g < 10 then [UInt8.ofNat (48 + g)] else [UInt8.ofNat (48 + g / 10), UInt8.ofNat (48 + g % 10)] := by
  rw [Lib.decDigits]
  by_cases h1 : g < 10
  · simp [h1]
  · rw [dif_neg h1, if_neg h1, Lib.decDigits, dif_pos (show g / 10 < 10 by omega)]
    rfl
theorem mem_lets {a b c d : Nat} {x : UInt8} (h : x ∈ lets a b c d) : x = 69 ∨ x = 84 ∨ x = 76 ∨ x = 83 := by
  unfold lets at h
  simp only [List.mem_append, List.mem_replicate] at h
  rcases h with ⟨_, h⟩ | ⟨_, h⟩ | ⟨_, h⟩ | ⟨_, h⟩ <;> simp [h]
theorem lets_digit {a b c d : Nat} {x : UInt8} (h : x ∈ lets a b c d) : digits.contains x = false := by
  rcases mem_lets h with rfl | rfl | rfl | rfl <;> rfl
def dval : Nat → List UInt8 → Nat
  | acc, [] => acc
  | acc, c :: r => dval (10 * acc + (c.toNat - 48)) r
def mAny (l : List UInt8) : Int := match Lib.atoiAll l with | .ok v => v | _ => 0
/-- what is known of the digits of a number to 20 -/
structure DigOk (g : Nat) (l : List UInt8) : Prop where
  all : l.all (digits.contains ·) = true
  len : l.length ≤ 2
  any : mAny l = g
  dv : dval 0 l = g
theorem dig_ok (z : Bool) (g : Nat) (h : g ≤ 20) : DigOk g (digs z g) := by
  unfold digs
  by_cases h0 : g = 0
  · subst h0
    rw [if_pos rfl]
    cases z
    · exact ⟨rfl, by decide, rfl, rfl⟩
    · exact ⟨rfl, by decide, rfl, rfl⟩
  · rw [if_neg h0, dec_lt g (by omega)]
    have h21 : g = 1 ∨ g = 2 ∨ g = 3 ∨ g = 4 ∨ g = 5 ∨ g = 6 ∨ g = 7 ∨ g = 8 ∨ g = 9 ∨ g = 10 ∨ g = 11 ∨ g = 12 ∨ g = 13 ∨ g = 14 ∨ g = 15 ∨ g = 16 ∨ g = 17 ∨ g = 18 ∨ g = 19 ∨ g = 20 := by omega
    clear h h0
    rcases h21 with rfl | rfl | rfl | rfl | rfl | rfl | rfl | rfl | rfl | rfl | rfl | rfl | rfl | rfl | rfl | rfl | rfl | rfl | rfl | rfl <;>
      exact ⟨rfl, by decide, rfl, rfl⟩
theorem drop_app {p : UInt8 → Bool} : ∀ {x y : List UInt8}, x.all p = true → (∀ c ∈ y, p c = false) → (x ++ y).dropWhile p = y
  | [], [], _, _ => rfl
  | [], c :: r, _, hy => by simp [hy c (by simp)]
  | a :: x, y, hx, hy => by
    simp only [List.all_cons, Bool.and_eq_true] at hx
    simp [hx.1, drop_app hx.2 hy]
theorem take_app {p : UInt8 → Bool} : ∀ {x y : List UInt8}, x.all p = true → (∀ c ∈ y, p c = false) → (x ++ y).takeWhile p = x
  | [], [], _, _ => rfl
  | [], c :: r, _, hy => by simp [hy c (by simp)]
  | a :: x, y, hx, hy => by
    simp only [List.all_cons, Bool.and_eq_true] at hx
    simp [hx.1, take_app hx.2 hy]

/-- how the program reads: what is behind the digits, the number, how often each letter stands there -/
def rest (l : List UInt8) : List UInt8 := Lib.trimLeftS l digits
def front (l : List UInt8) : List UInt8 := l.take (l.length - (rest l).length)
def mOf (l : List UInt8) (x : UInt8) : Nat := (rest l).count x
def mG (l : List UInt8) : Int := mAny (front l)
theorem rest_cost (a b c d g : Nat) (h : g ≤ 20) : rest (costT a b c d g) = lets a b c d := by
  unfold rest Lib.trimLeftS costT
  exact drop_app (dig_ok _ g h).all (fun c hc => lets_digit hc)
theorem front_cost (a b c d g : Nat) (h : g ≤ 20) : front (costT a b c d g) = digs (a == 0 && b == 0 && c == 0 && d == 0) g := by
  unfold front
  rw [rest_cost a b c d g h]
  unfold costT
  rw [List.length_append, Nat.add_sub_cancel, List.take_left']
  rfl
theorem mdec_cost (a b c d g : Nat) (h : g ≤ 20) : mOf (costT a b c d g) 69 = a ∧ mOf (costT a b c d g) 84 = b ∧ mOf (costT a b c d g) 76 = c ∧ mOf (costT a b c d g) 83 = d ∧ mG (costT a b c d g) = g := by
  unfold mOf mG
  rw [rest_cost a b c d g h, front_cost a b c d g h]
  refine ⟨?_, ?_, ?_, ?_, (dig_ok _ g h).any⟩ <;>
    simp [lets, List.count_append, List.count_replicate]

/-- how the reference reads: at most two digits, then the letters in their order -/
def run (l : List UInt8) (x : UInt8) : Nat := (l.takeWhile (· == x)).length
def rk (l : List UInt8) : Nat := min 2 (l.takeWhile (digits.contains ·)).length
def rAny (l : List UInt8) : Nat := dval 0 (l.take (rk l))
def r0 (l : List UInt8) : Nat := rk l
def r1 (l : List UInt8) : Nat := r0 l + run (l.drop (r0 l)) 69
def r2 (l : List UInt8) : Nat := r1 l + run (l.drop (r1 l)) 84
def r3 (l : List UInt8) : Nat := r2 l + run (l.drop (r2 l)) 76
def r4 (l : List UInt8) : Nat := r3 l + run (l.drop (r3 l)) 83
theorem run_rep (a : Nat) (x : UInt8) (y : List UInt8) (h : ∀ c ∈ y, c ≠ x) : run (List.replicate a x ++ y) x = a := by
  unfold run
  rw [take_app (by simp [List.all_replicate]) (fun c hc => by simpa using h c hc)]
  simp
theorem drop_rep (l x y : List UInt8) (k : Nat) (h : l.drop k = x ++ y) : l.drop (k + x.length) = y := by
  rw [← List.drop_drop, h]
  simp
structure RDec (l : List UInt8) (a b c d g : Nat) : Prop where
  g : rAny l = g
  a : run (l.drop (r0 l)) 69 = a
  b : run (l.drop (r1 l)) 84 = b
  c : run (l.drop (r2 l)) 76 = c
  d : run (l.drop (r3 l)) 83 = d
  e : r4 l = l.length
theorem rdec_cost (a b c d g : Nat) (h : g ≤ 20) : RDec (costT a b c d g) a b c d g := by
  have hd := dig_ok (a == 0 && b == 0 && c == 0 && d == 0) g h
  obtain ⟨l, hl⟩ : ∃ l, costT a b c d g = l := ⟨_, rfl⟩
  obtain ⟨D, hD⟩ : ∃ D, digs (a == 0 && b == 0 && c == 0 && d == 0) g = D := ⟨_, rfl⟩
  have hlD : l = D ++ lets a b c d := by rw [← hl, ← hD]; rfl
  rw [hD] at hd
  rw [hl]
  have hk : rk l = D.length := by
    unfold rk
    rw [hlD, take_app hd.all (fun c hc => lets_digit hc)]
    have := hd.len
    omega
  have d0 : l.drop (r0 l) = List.replicate a 69 ++ (List.replicate b 84 ++ (List.replicate c 76 ++ List.replicate d 83)) := by
    unfold r0
    rw [hk, hlD]
    simp [lets]
  have e0 : run (l.drop (r0 l)) 69 = a := by
    rw [d0]
    exact run_rep a 69 _ (fun c hc => by
      simp only [List.mem_append, List.mem_replicate] at hc
      rcases hc with ⟨_, rfl⟩ | ⟨_, rfl⟩ | ⟨_, rfl⟩ <;> decide)
  have d1 : l.drop (r1 l) = List.replicate b 84 ++ (List.replicate c 76 ++ List.replicate d 83) := by
    have := drop_rep l _ _ _ d0
    unfold r1
    rw [e0]
    simpa using this
  have e1 : run (l.drop (r1 l)) 84 = b := by
    rw [d1]
    exact run_rep b 84 _ (fun c hc => by
      simp only [List.mem_append, List.mem_replicate] at hc
      rcases hc with ⟨_, rfl⟩ | ⟨_, rfl⟩ <;> decide)
  have d2 : l.drop (r2 l) = List.replicate c 76 ++ List.replicate d 83 := by
    have := drop_rep l _ _ _ d1
    unfold r2
    rw [e1]
    simpa using this
  have e2 : run (l.drop (r2 l)) 76 = c := by
    rw [d2]
    exact run_rep c 76 _ (fun c hc => by
      simp only [List.mem_replicate] at hc
      obtain ⟨_, rfl⟩ := hc
      decide)
  have d3 : l.drop (r3 l) = List.replicate d 83 ++ [] := by
    have := drop_rep l _ _ _ d2
    unfold r3
    rw [e2]
    simpa using this
  have e3 : run (l.drop (r3 l)) 83 = d := by
    rw [d3]
    exact run_rep d 83 _ (fun c hc => by simp at hc)
  refine ⟨?_, e0, e1, e2, e3, ?_⟩
  · unfold rAny
    rw [hk, hlD]
    simpa using hd.dv
  · unfold r4
    rw [e3]
    unfold r3
    rw [e2]
    unfold r2
    rw [e1]
    unfold r1
    rw [e0]
    unfold r0
    rw [hk, hlD]
    simp [lets]
    omega
/-- a reader's loop over one letter: whether there is one more -/
theorem run_more (l : List UInt8) (x : UInt8) (i t : Nat) (h : t ≤ run (l.drop i) x) : t < run (l.drop i) x ↔ l[i + t]? = some x := by
  have key : ∀ (m : List UInt8) (t : Nat), t ≤ (m.takeWhile (· == x)).length → (t < (m.takeWhile (· == x)).length ↔ m[t]? = some x) := by
    intro m
    induction m with
    | nil => intro t _; simp
    | cons c r ih =>
      intro t ht
      by_cases e : c = x
      · subst e
        cases t with
        | zero => simp
        | succ t =>
          simp only [List.takeWhile_cons, beq_self_eq_true, if_true, List.length_cons] at ht ⊢
          have := ih t (by omega)
          rw [List.getElem?_cons_succ, ← this]
          omega
      · have e' : (c == x) = false := by simpa using e
        simp only [List.takeWhile_cons, e', Bool.false_eq_true, if_false, List.length_nil] at ht ⊢
        obtain rfl : t = 0 := by omega
        simp [e]
  have := key (l.drop i) t h
  unfold run
  rw [this, List.getElem?_drop]
theorem run_le (l : List UInt8) (x : UInt8) (i : Nat) : run (l.drop i) x ≤ l.length - i := by
  unfold run
  have := (List.takeWhile_sublist (· == x) (l := l.drop i)).length_le
  simpa using this
/-- the loop over the digits -/
theorem dig_more (l : List UInt8) (k : Nat) (h : k ≤ rk l) : k < rk l ↔ k < 2 ∧ ∃ c, l[k]? = some c ∧ 48 ≤ c.toNat ∧ c.toNat ≤ 57 := by
  have hc : ∀ c : UInt8, digits.contains c = true ↔ 48 ≤ c.toNat ∧ c.toNat ≤ 57 := by
    intro c
    constructor
    · intro h
      simp [digits] at h
      rcases h with rfl | rfl | rfl | rfl | rfl | rfl | rfl | rfl | rfl | rfl <;> decide
    · rintro ⟨h1, h2⟩
      have h3 : c.toNat = 48 ∨ c.toNat = 49 ∨ c.toNat = 50 ∨ c.toNat = 51 ∨ c.toNat = 52 ∨ c.toNat = 53 ∨ c.toNat = 54 ∨ c.toNat = 55 ∨ c.toNat = 56 ∨ c.toNat = 57 := by omega
      have e : ∀ n : Nat, c.toNat = n → c = UInt8.ofNat n := fun n hn => by rw [← hn]; simp
      rcases h3 with h | h | h | h | h | h | h | h | h | h <;> (rw [e _ h]; rfl)
  have key : ∀ (m : List UInt8) (t : Nat), t ≤ (m.takeWhile (digits.contains ·)).length → (t < (m.takeWhile (digits.contains ·)).length ↔ ∃ c, m[t]? = some c ∧ digits.contains c = true) := by
    intro m
    induction m with
    | nil => intro t _; simp
    | cons c r ih =>
      intro t ht
      by_cases e : digits.contains c = true
      · cases t with
        | zero =>
          constructor
          · intro _
            exact ⟨c, rfl, e⟩
          · intro _
            simp only [List.takeWhile_cons, e, if_true, List.length_cons]
            omega
        | succ t =>
          simp only [List.takeWhile_cons, e, if_true, List.length_cons] at ht ⊢
          have := ih t (by omega)
          rw [List.getElem?_cons_succ, ← this]
          omega
      · have e' : digits.contains c = false := by simpa using e
        simp only [List.takeWhile_cons, e', Bool.false_eq_true, if_false, List.length_nil] at ht ⊢
        obtain rfl : t = 0 := by omega
        simp
        simpa using e'
  unfold rk at h ⊢
  have h2 := key l k (by omega)
  simp only [hc] at h2
  clear key hc
  generalize (l.takeWhile (digits.contains ·)).length = n at h h2 ⊢
  constructor
  · intro hk
    exact ⟨by omega, h2.1 (by omega)⟩
  · rintro ⟨h3, h4⟩
    have := h2.2 h4
    omega
theorem rk_le (l : List UInt8) : rk l ≤ 2 ∧ rk l ≤ l.length := by
  unfold rk
  have := (List.takeWhile_sublist (digits.contains ·) (l := l)).length_le
  omega
theorem dval_snoc : ∀ (l : List UInt8) (acc : Nat) (c : UInt8), dval acc (l ++ [c]) = 10 * dval acc l + (c.toNat - 48)
  | [], acc, c => rfl
  | x :: r, acc, c => dval_snoc r _ c
end Go.Zm
