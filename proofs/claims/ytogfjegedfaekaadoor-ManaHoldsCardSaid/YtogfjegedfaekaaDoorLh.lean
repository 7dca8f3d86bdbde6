/-
  Mana: the plain law of ManaHolds.
-/
import Derived.Test.YtogfjegedfaekaaDoorWalkX
set_option linter.unusedVariables false
set_option linter.unusedSimpArgs false
namespace Go.Proofs.YtogfjegedfaekaaDoor
open Go.RowKit Go.Zn Go.Zm
attribute [local go_sem] Oper.semAt_some

theorem pay_facts {a b c d x y z u g : Int} (hc : canB a b c d x y z u g = true) : ∃ p q r t : Int, payM a b c d x y z u g = ⟨p, q, r, t⟩ ∧ (0 ≤ p ∧ p ≤ a - x) ∧ (0 ≤ q ∧ q ≤ b - y) ∧ (0 ≤ r ∧ r ≤ c - z) ∧ (0 ≤ t ∧ t ≤ d - u) ∧ a + b + c + d - (p + q + r + t) = x + y + z + u + g := by
  obtain ⟨h, h2, hle, hsu⟩ := canB_out hc
  obtain ⟨hX, g1, g2⟩ := cost_out h2
  have hs := itr_step (subM ⟨a, b, c, d⟩ ⟨x, y, z, u⟩) (nn_sub hle) g.toNat (by omega)
  have hp : payM a b c d x y z u g = itr g.toNat (subM ⟨a, b, c, d⟩ ⟨x, y, z, u⟩) := by simp [payM, hc]
  obtain ⟨⟨p, q, r, t⟩, hv⟩ : ∃ v, itr g.toNat (subM ⟨a, b, c, d⟩ ⟨x, y, z, u⟩) = v := ⟨_, rfl⟩
  rw [hv] at hs hp
  obtain ⟨h3, h4, h5⟩ := hs
  simp only [Nn, Le, su, subM] at h3 h4 h5
  refine ⟨p, q, r, t, hp, ?_⟩
  omega
/-- what is missing, if one cannot pay -/
theorem miss_facts {a b c d x y z u g : Int} (hi : in4 99 a b c d = true) (hj : cost x y z u g = true) (hc : canB a b c d x y z u g = false) : ∃ e f h i L : Int, missM a b c d x y z u g = ⟨⟨e, f, h, i⟩, L⟩ ∧
    (0 ≤ e ∧ e ≤ x) ∧ (0 ≤ f ∧ f ≤ y) ∧ (0 ≤ h ∧ h ≤ z) ∧ (0 ≤ i ∧ i ≤ u) ∧ (0 ≤ L ∧ L ≤ g) ∧ 1 ≤ e + f + h + i + L ∧
    (0 < e → a + e = x) ∧ (0 < f → b + f = y) ∧ (0 < h → c + h = z) ∧ (0 < i → d + i = u) ∧
    (x ≤ a + e ∧ y ≤ b + f ∧ z ≤ c + h ∧ u ≤ d + i) ∧ g ≤ (a + e - x) + (b + f - y) + (c + h - z) + (d + i - u) + L := by
  obtain ⟨⟨a1, a2⟩, ⟨b1, b2⟩, ⟨e1, e2⟩, ⟨d1, d2⟩⟩ := in4_out hi
  obtain ⟨hX, g1, g2⟩ := cost_out hj
  obtain ⟨⟨x1, x2⟩, ⟨y1, y2⟩, ⟨z1, z2⟩, ⟨u1, u2⟩⟩ := in4_out hX
  have hz : ¬ (Le ⟨x, y, z, u⟩ ⟨a, b, c, d⟩ ∧ g ≤ su (subM ⟨a, b, c, d⟩ ⟨x, y, z, u⟩)) := by
    intro h
    have := (zero_iff _ _ _).2 h
    unfold canB at hc
    rw [hi, hj, this] at hc
    cases hc
  refine ⟨mis x a, mis y b, mis z c, mis u d, lack ⟨x, y, z, u⟩ ⟨a, b, c, d⟩ g, by simp [missM, misM, hi, hj], ?_⟩
  simp only [Le, su, subM] at hz
  simp only [lack, left, mis, rem]
  omega
theorem cost_of_miss {e f h i L x y z u g : Int} (hj : cost x y z u g = true) (he : 0 ≤ e ∧ e ≤ x) (hf : 0 ≤ f ∧ f ≤ y) (hh : 0 ≤ h ∧ h ≤ z) (h9 : 0 ≤ i ∧ i ≤ u) (hL : 0 ≤ L ∧ L ≤ g) : cost e f h i L = true := by
  obtain ⟨hX, g1, g2⟩ := cost_out hj
  obtain ⟨⟨x1, x2⟩, ⟨y1, y2⟩, ⟨z1, z2⟩, ⟨u1, u2⟩⟩ := in4_out hX
  have k : in4 20 e f h i = true := in4_yes fun j hj => by
    obtain rfl | rfl | rfl | rfl : j = 0 ∨ j = 1 ∨ j = 2 ∨ j = 3 := by omega
    all_goals (simp only [at4]; omega)
  unfold cost
  rw [k]
  simp
  omega
theorem canB_yes {a b c d x y z u g : Int} (hi : in4 99 a b c d = true) (hj : cost x y z u g = true) (h1 : x ≤ a ∧ y ≤ b ∧ z ≤ c ∧ u ≤ d) (h2 : g ≤ (a - x) + (b - y) + (c - z) + (d - u)) : canB a b c d x y z u g = true := by
  have hle : Le ⟨x, y, z, u⟩ ⟨a, b, c, d⟩ := h1
  have hs : g ≤ su (subM ⟨a, b, c, d⟩ ⟨x, y, z, u⟩) := by simpa [su, subM] using h2
  unfold canB
  rw [hi, hj, (zero_iff _ _ _).2 ⟨hle, hs⟩]
  rfl
theorem canB_not {a b c d x y z u g : Int} (h : a < x ∨ b < y ∨ c < z ∨ d < u) : canB a b c d x y z u g = false := by
  cases hc : canB a b c d x y z u g
  · rfl
  · obtain ⟨_, _, hle, _⟩ := canB_out hc
    have hl : x ≤ a ∧ y ≤ b ∧ z ≤ c ∧ u ≤ d := hle
    omega
theorem good_text {x y z u g : Int} (hj : cost x y z u g = true) : pOk (costT x.toNat y.toNat z.toNat u.toNat g.toNat) = true ∧ pC (costT x.toNat y.toNat z.toNat u.toNat g.toNat) = ⟨⟨x, y, z, u⟩, g⟩ := by
  obtain ⟨hX, g1, g2⟩ := cost_out hj
  obtain ⟨⟨x1, x2⟩, ⟨y1, y2⟩, ⟨z1, z2⟩, ⟨u1, u2⟩⟩ := in4_out hX
  obtain ⟨X, rfl⟩ := Int.eq_ofNat_of_zero_le x1
  obtain ⟨Y, rfl⟩ := Int.eq_ofNat_of_zero_le y1
  obtain ⟨Z, rfl⟩ := Int.eq_ofNat_of_zero_le z1
  obtain ⟨U, rfl⟩ := Int.eq_ofNat_of_zero_le u1
  obtain ⟨G, rfl⟩ := Int.eq_ofNat_of_zero_le g1
  exact pOk_of hj rfl
theorem k_text {x y z u g : Int} (hj : cost x y z u g = true) (W : World) : Calls Tryd.prog 25 #[.agg #[.int .i64 x, .int .i64 y, .int .i64 z, .int .i64 u, .int .i64 g]] W fun e w' => e = .returned (.tuple #[.string (strOf (costT x.toNat y.toNat z.toNat u.toNat g.toNat)), .int .i64 0]) ∧ Kept No W w' :=
  (text_any x y z u g W).mono fun e w' ⟨he, hk⟩ => ⟨he.trans (by unfold textS textE; rw [hj]; rfl), hk⟩
end Go.Proofs.YtogfjegedfaekaaDoor
