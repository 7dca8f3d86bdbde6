/-
  Mana: Add, Pay, Missing and the reference's, each in one sentence.
-/
import Derived.Test.YtogfjegedfaekaaDoorWalkO
set_option linter.unusedVariables false
set_option linter.unusedSimpArgs false
namespace Go.Proofs.YtogfjegedfaekaaDoor
open Go.RowKit Go.Zn Go.Zm
attribute [local go_sem] Oper.semAt_some

def addOk (a b c d k n : Int) : Bool := in4 99 a b c d && col k && decide (0 ≤ n)
def addM (a b c d k n : Int) : M4 := if addOk a b c d k n then Zm.put ⟨a, b, c, d⟩ k.toNat (sat (at_ ⟨a, b, c, d⟩ k.toNat) n) else ⟨0, 0, 0, 0⟩
def addE (a b c d k n : Int) : Int := if addOk a b c d k n then 0 else 2
theorem col_cases {k : Int} (h : col k = true) : k = 0 ∨ k = 1 ∨ k = 2 ∨ k = 3 := by
  unfold col at h
  simp only [Bool.and_eq_true, decide_eq_true_eq] at h
  omega
theorem addM_no {a b c d k n : Int} (h : addOk a b c d k n = false) : addM a b c d k n = ⟨0, 0, 0, 0⟩ ∧ addE a b c d k n = 2 := by simp [addM, addE, h]
theorem addM_yes {a b c d k n : Int} (h : addOk a b c d k n = true) : addM a b c d k n = Zm.put ⟨a, b, c, d⟩ k.toNat (sat (at_ ⟨a, b, c, d⟩ k.toNat) n) ∧ addE a b c d k n = 0 := by simp [addM, addE, h]
theorem add_any (a b c d k n : Int) (w : World) (hn1 : n ≤ 9223372036854775807) : Calls Tryd.prog 32 #[.agg #[.int .i64 a, .int .i64 b, .int .i64 c, .int .i64 d], .int .i64 k, .int .i64 n] w fun e w' => e = .returned (.tuple #[.agg #[.int .i64 ((addM a b c d k n).a), .int .i64 ((addM a b c d k n).b), .int .i64 ((addM a b c d k n).c), .int .i64 ((addM a b c d k n).d)], .int .i64 (addE a b c d k n)]) ∧ Kept No w w' := by
  cases h1 : in4 99 a b c d
  · have h := addM_no (a := a) (b := b) (c := c) (d := d) (k := k) (n := n) (by simp [addOk, h1])
    rw [h.1, h.2]
    exact add_bad a b c d k n w h1
  · cases h2 : col k
    · have h := addM_no (a := a) (b := b) (c := c) (d := d) (k := k) (n := n) (by simp [addOk, h2])
      rw [h.1, h.2]
      exact add_badK a b c d k n w h1 h2
    · by_cases h3 : 0 ≤ n
      · have h := addM_yes (a := a) (b := b) (c := c) (d := d) (k := k) (n := n) (by simp [addOk, h1, h2, h3])
        rw [h.1, h.2]
        rcases col_cases h2 with rfl | rfl | rfl | rfl
        · exact add_ok0 a b c d n w h1 h3 hn1
        · exact add_ok1 a b c d n w h1 h3 hn1
        · exact add_ok2 a b c d n w h1 h3 hn1
        · exact add_ok3 a b c d n w h1 h3 hn1
      · have h := addM_no (a := a) (b := b) (c := c) (d := d) (k := k) (n := n) (by simp [addOk, h3])
        rw [h.1, h.2]
        exact add_badN a b c d k n w h1 h2 (by omega)
theorem radd_any (a b c d k n : Int) (w : World) (hn1 : n ≤ 9223372036854775807) : Calls Tryd.prog 11 #[.agg #[.int .i64 a, .int .i64 b, .int .i64 c, .int .i64 d], .int .i64 k, .int .i64 n] w fun e w' => e = .returned (.tuple #[.agg #[.int .i64 ((addM a b c d k n).a), .int .i64 ((addM a b c d k n).b), .int .i64 ((addM a b c d k n).c), .int .i64 ((addM a b c d k n).d)], .int .i64 (addE a b c d k n)]) ∧ Kept No w w' := by
  cases h1 : in4 99 a b c d
  · have h := addM_no (a := a) (b := b) (c := c) (d := d) (k := k) (n := n) (by simp [addOk, h1])
    rw [h.1, h.2]
    exact radd_bad a b c d k n w h1
  · cases h2 : col k
    · have h := addM_no (a := a) (b := b) (c := c) (d := d) (k := k) (n := n) (by simp [addOk, h2])
      rw [h.1, h.2]
      have h3 : k < 0 ∨ (0 ≤ k ∧ 3 < k) := by
        unfold col at h2
        simp only [Bool.and_eq_false_iff, decide_eq_false_iff_not] at h2
        omega
      rcases h3 with h3 | ⟨h3, h4⟩
      · exact radd_badL a b c d k n w h1 h3
      · exact radd_badH a b c d k n w h1 h3 h4
    · by_cases h3 : 0 ≤ n
      · have h := addM_yes (a := a) (b := b) (c := c) (d := d) (k := k) (n := n) (by simp [addOk, h1, h2, h3])
        rw [h.1, h.2]
        rcases col_cases h2 with rfl | rfl | rfl | rfl
        · exact radd_ok0 a b c d n w h1 h3 hn1
        · exact radd_ok1 a b c d n w h1 h3 hn1
        · exact radd_ok2 a b c d n w h1 h3 hn1
        · exact radd_ok3 a b c d n w h1 h3 hn1
      · have h := addM_no (a := a) (b := b) (c := c) (d := d) (k := k) (n := n) (by simp [addOk, h3])
        rw [h.1, h.2]
        have h4 := col_cases h2
        exact radd_badN a b c d k n w h1 (by omega) (by omega) (by omega)
def payM (a b c d x y z u g : Int) : M4 := if canB a b c d x y z u g then itr g.toNat (subM ⟨a, b, c, d⟩ ⟨x, y, z, u⟩) else ⟨0, 0, 0, 0⟩
def payE (a b c d x y z u g : Int) : Int := if in4 99 a b c d && cost x y z u g then (if canB a b c d x y z u g then 0 else 12) else 2
theorem canB_no1 {a b c d x y z u g : Int} (h : in4 99 a b c d = false) : canB a b c d x y z u g = false := by simp [canB, h]
theorem canB_no2 {a b c d x y z u g : Int} (h : cost x y z u g = false) : canB a b c d x y z u g = false := by simp [canB, h]
theorem pay_any (a b c d x y z u g : Int) (w : World) : Calls Tryd.prog 26 #[.agg #[.int .i64 a, .int .i64 b, .int .i64 c, .int .i64 d], .agg #[.int .i64 x, .int .i64 y, .int .i64 z, .int .i64 u, .int .i64 g]] w fun e w' => e = .returned (.tuple #[.agg #[.int .i64 ((payM a b c d x y z u g).a), .int .i64 ((payM a b c d x y z u g).b), .int .i64 ((payM a b c d x y z u g).c), .int .i64 ((payM a b c d x y z u g).d)], .int .i64 (payE a b c d x y z u g)]) ∧ Kept No w w' := by
  cases h1 : in4 99 a b c d
  · have e1 : payM a b c d x y z u g = ⟨0, 0, 0, 0⟩ := by simp [payM, canB_no1 h1]
    have e2 : payE a b c d x y z u g = 2 := by simp [payE, h1]
    rw [e1, e2]
    exact pay_bad1 a b c d x y z u g w h1
  · cases h2 : cost x y z u g
    · have e1 : payM a b c d x y z u g = ⟨0, 0, 0, 0⟩ := by simp [payM, canB_no2 h2]
      have e2 : payE a b c d x y z u g = 2 := by simp [payE, h2]
      rw [e1, e2]
      exact pay_bad2 a b c d x y z u g w h1 h2
    · cases h3 : canB a b c d x y z u g
      · have e1 : payM a b c d x y z u g = ⟨0, 0, 0, 0⟩ := by simp [payM, h3]
        have e2 : payE a b c d x y z u g = 12 := by simp [payE, h1, h2, h3]
        rw [e1, e2]
        exact pay_no a b c d x y z u g w h1 h2 h3
      · have e1 : payM a b c d x y z u g = itr g.toNat (subM ⟨a, b, c, d⟩ ⟨x, y, z, u⟩) := by simp [payM, h3]
        have e2 : payE a b c d x y z u g = 0 := by simp [payE, h1, h2, h3]
        rw [e1, e2]
        exact pay_ok a b c d x y z u g w h3
theorem rpay_any (a b c d x y z u g : Int) (w : World) : Calls Tryd.prog 18 #[.agg #[.int .i64 a, .int .i64 b, .int .i64 c, .int .i64 d], .agg #[.int .i64 x, .int .i64 y, .int .i64 z, .int .i64 u, .int .i64 g]] w fun e w' => e = .returned (.tuple #[.agg #[.int .i64 ((payM a b c d x y z u g).a), .int .i64 ((payM a b c d x y z u g).b), .int .i64 ((payM a b c d x y z u g).c), .int .i64 ((payM a b c d x y z u g).d)], .int .i64 (payE a b c d x y z u g)]) ∧ Kept No w w' := by
  cases h1 : in4 99 a b c d
  · have e1 : payM a b c d x y z u g = ⟨0, 0, 0, 0⟩ := by simp [payM, canB_no1 h1]
    have e2 : payE a b c d x y z u g = 2 := by simp [payE, h1]
    rw [e1, e2]
    exact rpay_bad1 a b c d x y z u g w h1
  · cases h2 : cost x y z u g
    · have e1 : payM a b c d x y z u g = ⟨0, 0, 0, 0⟩ := by simp [payM, canB_no2 h2]
      have e2 : payE a b c d x y z u g = 2 := by simp [payE, h2]
      rw [e1, e2]
      exact rpay_bad2 a b c d x y z u g w h1 h2
    · cases h3 : canB a b c d x y z u g
      · have e1 : payM a b c d x y z u g = ⟨0, 0, 0, 0⟩ := by simp [payM, h3]
        have e2 : payE a b c d x y z u g = 12 := by simp [payE, h1, h2, h3]
        rw [e1, e2]
        refine rpay_no a b c d x y z u g w h1 h2 ?_
        unfold canB at h3
        rw [h1, h2] at h3
        exact h3
      · have e1 : payM a b c d x y z u g = itr g.toNat (subM ⟨a, b, c, d⟩ ⟨x, y, z, u⟩) := by simp [payM, h3]
        have e2 : payE a b c d x y z u g = 0 := by simp [payE, h1, h2, h3]
        rw [e1, e2]
        obtain ⟨_, g1, _⟩ := cost_out h2
        exact rpay_okG a b c d x y z u g g.toNat (by omega) w h3
def missM (a b c d x y z u g : Int) : C5 := if in4 99 a b c d && cost x y z u g then ⟨misM ⟨x, y, z, u⟩ ⟨a, b, c, d⟩, lack ⟨x, y, z, u⟩ ⟨a, b, c, d⟩ g⟩ else ⟨⟨0, 0, 0, 0⟩, 0⟩
theorem miss_any (a b c d x y z u g : Int) (w : World) : Calls Tryd.prog 22 #[.agg #[.int .i64 a, .int .i64 b, .int .i64 c, .int .i64 d], .agg #[.int .i64 x, .int .i64 y, .int .i64 z, .int .i64 u, .int .i64 g]] w fun e w' => e = .returned (.agg #[.int .i64 ((missM a b c d x y z u g).of.a), .int .i64 ((missM a b c d x y z u g).of.b), .int .i64 ((missM a b c d x y z u g).of.c), .int .i64 ((missM a b c d x y z u g).of.d), .int .i64 ((missM a b c d x y z u g).g)]) ∧ Kept No w w' := by
  cases h1 : in4 99 a b c d
  · have e1 : missM a b c d x y z u g = ⟨⟨0, 0, 0, 0⟩, 0⟩ := by simp [missM, h1]
    rw [e1]
    exact miss_bad1 a b c d x y z u g w h1
  · cases h2 : cost x y z u g
    · have e1 : missM a b c d x y z u g = ⟨⟨0, 0, 0, 0⟩, 0⟩ := by simp [missM, h2]
      rw [e1]
      exact miss_bad2 a b c d x y z u g w h1 h2
    · have e1 : missM a b c d x y z u g = ⟨misM ⟨x, y, z, u⟩ ⟨a, b, c, d⟩, lack ⟨x, y, z, u⟩ ⟨a, b, c, d⟩ g⟩ := by simp [missM, h1, h2]
      rw [e1]
      exact miss_ok a b c d x y z u g w h1 h2
end Go.Proofs.YtogfjegedfaekaaDoor
