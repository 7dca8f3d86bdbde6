/-
  Mana, the plain law: which colour has most, paying from it, what is missing. No program in sight.
-/
set_option linter.unusedVariables false
set_option linter.unusedSimpArgs false
namespace Go.Zm

structure M4 where
  a : Int
  b : Int
  c : Int
  d : Int

theorem M4.ext' {x y : M4} (h1 : x.a = y.a) (h2 : x.b = y.b) (h3 : x.c = y.c) (h4 : x.d = y.d) : x = y := by
  cases x; cases y; simp at h1 h2 h3 h4; simp [h1, h2, h3, h4]

/-- the index of the first one of the greatest among the first k -/
def mxk (m : M4) : Nat → Nat
  | 0 => 0
  | 1 => 0
  | 2 => if m.a < m.b then 1 else 0
  | 3 => if m.a < m.b then (if m.b < m.c then 2 else 1) else (if m.a < m.c then 2 else 0)
  | _ => if m.a < m.b then (if m.b < m.c then (if m.c < m.d then 3 else 2) else (if m.b < m.d then 3 else 1)) else (if m.a < m.c then (if m.c < m.d then 3 else 2) else (if m.a < m.d then 3 else 0))
def mx (m : M4) : Nat := mxk m 4
def at_ (m : M4) : Nat → Int
  | 0 => m.a | 1 => m.b | 2 => m.c | _ => m.d
def put (m : M4) (k : Nat) (v : Int) : M4 :=
  match k with
  | 0 => { m with a := v } | 1 => { m with b := v } | 2 => { m with c := v } | _ => { m with d := v }
def dec (m : M4) : M4 := put m (mx m) (at_ m (mx m) - 1)
def itr : Nat → M4 → M4
  | 0, m => m
  | n + 1, m => dec (itr n m)
def su (m : M4) : Int := m.a + m.b + m.c + m.d
def Le (m x : M4) : Prop := m.a ≤ x.a ∧ m.b ≤ x.b ∧ m.c ≤ x.c ∧ m.d ≤ x.d
def Nn (m : M4) : Prop := 0 ≤ m.a ∧ 0 ≤ m.b ∧ 0 ≤ m.c ∧ 0 ≤ m.d

theorem mx_cases (m : M4) :
    (mx m = 0 ∧ m.b ≤ m.a ∧ m.c ≤ m.a ∧ m.d ≤ m.a) ∨ (mx m = 1 ∧ m.a < m.b ∧ m.c ≤ m.b ∧ m.d ≤ m.b) ∨
    (mx m = 2 ∧ m.a < m.c ∧ m.b < m.c ∧ m.d ≤ m.c) ∨ (mx m = 3 ∧ m.a < m.d ∧ m.b < m.d ∧ m.c < m.d) := by
  unfold mx mxk
  by_cases h1 : m.a < m.b <;> by_cases h2 : m.b < m.c <;> by_cases h3 : m.a < m.c <;> by_cases h4 : m.c < m.d <;> by_cases h5 : m.b < m.d <;> by_cases h6 : m.a < m.d <;> simp [h1, h2, h3, h4, h5, h6] <;> omega
theorem dec_step (m : M4) (h : Nn m) (hs : 1 ≤ su m) : Nn (dec m) ∧ Le (dec m) m ∧ su (dec m) = su m - 1 := by
  unfold Nn su at *
  rcases mx_cases m with ⟨e, h1, h2, h3⟩ | ⟨e, h1, h2, h3⟩ | ⟨e, h1, h2, h3⟩ | ⟨e, h1, h2, h3⟩ <;>
    (unfold dec; rw [e]; simp only [put, at_, Le]; omega)
theorem itr_step (m : M4) (h : Nn m) : ∀ n : Nat, (n : Int) ≤ su m → Nn (itr n m) ∧ Le (itr n m) m ∧ su (itr n m) = su m - n
  | 0, _ => ⟨h, ⟨Int.le_refl _, Int.le_refl _, Int.le_refl _, Int.le_refl _⟩, by simp [itr]⟩
  | n + 1, hn => by
    obtain ⟨h1, h2, h3⟩ := itr_step m h n (by omega)
    obtain ⟨k1, k2, k3⟩ := dec_step (itr n m) h1 (by omega)
    refine ⟨k1, ?_, ?_⟩
    · show Le (dec (itr n m)) m
      unfold Le at *
      omega
    · show su (dec (itr n m)) = _
      omega

/-- what a colour is missing, what it leaves -/
def mis (x a : Int) : Int := max 0 (x - a)
def rem (x a : Int) : Int := max 0 (a - x)
structure C5 where
  of : M4
  g : Int
def misM (c m : M4) : M4 := ⟨mis c.a m.a, mis c.b m.b, mis c.c m.c, mis c.d m.d⟩
def left (c m : M4) : Int := rem c.a m.a + rem c.b m.b + rem c.c m.c + rem c.d m.d
def lack (c m : M4) (g : Int) : Int := max 0 (g - left c m)
def zero (c : M4) (g : Int) : Bool := c.a == 0 && c.b == 0 && c.c == 0 && c.d == 0 && g == 0
def subM (m c : M4) : M4 := ⟨m.a - c.a, m.b - c.b, m.c - c.c, m.d - c.d⟩
/-- nothing is missing: there is enough -/
theorem zero_iff (c m : M4) (g : Int) : zero (misM c m) (lack c m g) = true ↔ Le c m ∧ g ≤ su (subM m c) := by
  unfold zero misM lack left mis rem Le su subM
  simp only [Bool.and_eq_true, beq_iff_eq]
  omega
theorem nn_sub {m c : M4} (h : Le c m) : Nn (subM m c) := by
  unfold Nn subM Le at *
  simp only
  omega
end Go.Zm
