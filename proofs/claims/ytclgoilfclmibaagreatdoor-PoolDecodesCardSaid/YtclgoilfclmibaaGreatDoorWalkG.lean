/-
  Pool: costs (turned from Mana's texts).
-/
import Derived.Test.YtclgoilfclmibaaGreatDoorWalkF
import Derived.LoopIn
import Derived.BigQuiet
set_option linter.unusedVariables false
set_option linter.unusedSimpArgs false
namespace Go.Proofs.YtclgoilfclmibaaGreatDoor
open Go.RowKit Go.Zn
attribute [local go_sem] Oper.semAt_some

def at4 (a b c d : Int) : Nat → Int
  | 0 => a | 1 => b | 2 => c | _ => d
def In4 (m a b c d : Int) : Prop := ∀ k, k < 4 → 0 ≤ at4 a b c d k ∧ at4 a b c d k ≤ m
instance (m a b c d : Int) : Decidable (In4 m a b c d) := by unfold In4; infer_instance
def in4 (m a b c d : Int) : Bool := decide (In4 m a b c d)
theorem in4_no {m a b c d : Int} (k : Nat) (hk : k < 4) (h : at4 a b c d k < 0 ∨ m < at4 a b c d k) : in4 m a b c d = false := by
  unfold in4
  rw [decide_eq_false_iff_not]
  intro hh
  have := hh k hk
  omega
theorem in4_yes {m a b c d : Int} (h : ∀ j, j < 4 → 0 ≤ at4 a b c d j ∧ at4 a b c d j ≤ m) : in4 m a b c d = true := by
  unfold in4
  rw [decide_eq_true_iff]
  exact h
theorem up4 {m a b c d : Int} {k : Nat} (h : ∀ j, j < k → 0 ≤ at4 a b c d j ∧ at4 a b c d j ≤ m) (h1 : 0 ≤ at4 a b c d k) (h2 : at4 a b c d k ≤ m) : ∀ j, j < k + 1 → 0 ≤ at4 a b c d j ∧ at4 a b c d j ≤ m := fun j hj => by
  by_cases e : j = k
  · subst e; exact ⟨h1, h2⟩
  · exact h j (by omega)
def WRel (m a b c d : Int) (w0 : World) (i : Value) (wr : World) : Prop := ∃ k : Nat, i = .int .i64 (k : Nat) ∧ k ≤ 4 ∧ (∀ j, j < k → 0 ≤ at4 a b c d j ∧ at4 a b c d j ≤ m) ∧ Kept No w0 wr
theorem idx0 (a b c d : Int) (W : World) : Sem.run Tryz.prog (Instr.index 38 (.agg #[.int .i64 a, .int .i64 b, .int .i64 c, .int .i64 d]) (.int .i64 0)) W = .ok (.int .i64 a) W := by kernel_rfl
theorem idx1 (a b c d : Int) (W : World) : Sem.run Tryz.prog (Instr.index 38 (.agg #[.int .i64 a, .int .i64 b, .int .i64 c, .int .i64 d]) (.int .i64 1)) W = .ok (.int .i64 b) W := by kernel_rfl
theorem idx2 (a b c d : Int) (W : World) : Sem.run Tryz.prog (Instr.index 38 (.agg #[.int .i64 a, .int .i64 b, .int .i64 c, .int .i64 d]) (.int .i64 2)) W = .ok (.int .i64 c) W := by kernel_rfl
theorem idx3 (a b c d : Int) (W : World) : Sem.run Tryz.prog (Instr.index 38 (.agg #[.int .i64 a, .int .i64 b, .int .i64 c, .int .i64 d]) (.int .i64 3)) W = .ok (.int .i64 d) W := by kernel_rfl
set_option maxRecDepth 100000 in
theorem mwithin_any (m a b c d : Int) (w : World) : Calls Tryz.prog 72 #[.agg #[.int .i64 a, .int .i64 b, .int .i64 c, .int .i64 d], .int .i64 m] w fun e w' => e = .returned (.bool (in4 m a b c d)) ∧ Kept No w w' := by
  have i0 := idx0 a b c d
  have i1 := idx1 a b c d
  have i2 := idx2 a b c d
  have i3 := idx3 a b c d
  go_enter Tryz.func72, Tryz.ntmps72
  go_wp2_with fail
  go_loopw [8] (fun i wr => WRel m a b c d w i wr) (fun i _ => 4 - (intOf i).toNat)
  case atStart => exact ⟨0, rfl, by decide, fun j h => by omega, (Kept.refl No w).alloc _⟩
  case round =>
    obtain ⟨k, rfl, hk, hall, hkk⟩ := hrel
    have HALL := Lib.hid hall
    have HKK := Lib.hid hkk
    clear hall hkk
    obtain rfl | rfl | rfl | rfl | rfl : k = 0 ∨ k = 1 ∨ k = 2 ∨ k = 3 ∨ k = 4 := by omega
    · by_cases x1 : a < 0
      · have hr : in4 m a b c d = false := in4_no 0 (by decide) (.inl x1)
        go_wp2_with fail
        go_ret
        exact ⟨hr.symm ▸ rfl, HKK.out⟩
      · by_cases x2 : m < a
        · have hr : in4 m a b c d = false := in4_no 0 (by decide) (.inr x2)
          go_wp2_with fail
          go_ret
          exact ⟨hr.symm ▸ rfl, HKK.out⟩
        · go_wp2_with fail
          exact ⟨⟨1, by go_num, by decide, up4 HALL.out (show 0 ≤ a by omega) (show a ≤ m by omega), HKK.out⟩, by simp [intOf]⟩
    · by_cases x1 : b < 0
      · have hr : in4 m a b c d = false := in4_no 1 (by decide) (.inl x1)
        go_wp2_with fail
        go_ret
        exact ⟨hr.symm ▸ rfl, HKK.out⟩
      · by_cases x2 : m < b
        · have hr : in4 m a b c d = false := in4_no 1 (by decide) (.inr x2)
          go_wp2_with fail
          go_ret
          exact ⟨hr.symm ▸ rfl, HKK.out⟩
        · go_wp2_with fail
          exact ⟨⟨2, by go_num, by decide, up4 HALL.out (show 0 ≤ b by omega) (show b ≤ m by omega), HKK.out⟩, by simp [intOf]⟩
    · by_cases x1 : c < 0
      · have hr : in4 m a b c d = false := in4_no 2 (by decide) (.inl x1)
        go_wp2_with fail
        go_ret
        exact ⟨hr.symm ▸ rfl, HKK.out⟩
      · by_cases x2 : m < c
        · have hr : in4 m a b c d = false := in4_no 2 (by decide) (.inr x2)
          go_wp2_with fail
          go_ret
          exact ⟨hr.symm ▸ rfl, HKK.out⟩
        · go_wp2_with fail
          exact ⟨⟨3, by go_num, by decide, up4 HALL.out (show 0 ≤ c by omega) (show c ≤ m by omega), HKK.out⟩, by simp [intOf]⟩
    · by_cases x1 : d < 0
      · have hr : in4 m a b c d = false := in4_no 3 (by decide) (.inl x1)
        go_wp2_with fail
        go_ret
        exact ⟨hr.symm ▸ rfl, HKK.out⟩
      · by_cases x2 : m < d
        · have hr : in4 m a b c d = false := in4_no 3 (by decide) (.inr x2)
          go_wp2_with fail
          go_ret
          exact ⟨hr.symm ▸ rfl, HKK.out⟩
        · go_wp2_with fail
          exact ⟨⟨4, by go_num, by decide, up4 HALL.out (show 0 ≤ d by omega) (show d ≤ m by omega), HKK.out⟩, by simp [intOf]⟩
    · have hr : in4 m a b c d = true := in4_yes HALL.out
      go_wp2_with fail
      go_ret
      exact ⟨hr.symm ▸ rfl, HKK.out⟩
theorem in4_out {m a b c d : Int} (h : in4 m a b c d = true) : (0 ≤ a ∧ a ≤ m) ∧ (0 ≤ b ∧ b ≤ m) ∧ (0 ≤ c ∧ c ≤ m) ∧ (0 ≤ d ∧ d ≤ m) := by
  have h1 : In4 m a b c d := of_decide_eq_true h
  exact ⟨h1 0 (by decide), h1 1 (by decide), h1 2 (by decide), h1 3 (by decide)⟩
def cost (a b c d g : Int) : Bool := in4 20 a b c d && decide (0 ≤ g) && decide (g ≤ 20)
set_option maxRecDepth 100000 in
theorem validCost_any (a b c d g : Int) (w : World) : Calls Tryz.prog 51 #[.agg #[.int .i64 a, .int .i64 b, .int .i64 c, .int .i64 d, .int .i64 g]] w fun e w' => e = .returned (.bool (cost a b c d g)) ∧ Kept No w w' := by
  obtain ⟨w1, hw1⟩ : ∃ w1, w.alloc (.cells #[.int .i64 a, .int .i64 b, .int .i64 c, .int .i64 d, .int .i64 g] 40) = w1 := ⟨_, rfl⟩
  have hb : w1.heap[w.heap.size]? = some (.cells #[.int .i64 a, .int .i64 b, .int .i64 c, .int .i64 d, .int .i64 g] 40 (0, 0)) := by rw [← hw1]; exact heap_alloc_new w _
  have HK1 := Lib.hid (show Kept No w w1 by rw [← hw1]; exact (Kept.refl No w).alloc _)
  have c0 := obj_cell hb 0
  have c1 := obj_cell hb 1
  have c2 := obj_cell hb 2
  have c3 := obj_cell hb 3
  have HB := Lib.hid hb
  clear hb
  go_enter Tryz.func51, Tryz.ntmps51
  go_wp2_with fail
  refine (mwithin_any 20 a b c d _).mono ?_
  rintro e w' ⟨rfl, hk⟩
  have c4 := obj_cell (hk.obj HB.out (not_no _)) 4
  have HK := Lib.hid (HK1.out.and hk)
  clear hk
  cases hi : in4 20 a b c d
  · have hr : cost a b c d g = false := by unfold cost; rw [hi]; rfl
    go_wp2_with fail
    go_ret
    exact ⟨by first | rfl | (rw [hr]; rfl) | simp [hr], HK.out⟩
  · by_cases h1 : 0 ≤ g
    · have d1 : decide (0 ≤ g) = true := by simp; exact h1
      by_cases h2 : g ≤ 20
      · have d2 : decide (g ≤ 20) = true := by simp; exact h2
        have hr : cost a b c d g = true := by unfold cost; rw [hi]; simp [h1, h2]
        go_wp2_with fail
        go_ret
        exact ⟨by first | rfl | (rw [hr]; rfl) | simp [hr], HK.out⟩
      · have d2 : decide (g ≤ 20) = false := by simp; omega
        have hr : cost a b c d g = false := by unfold cost; rw [hi]; simp [h2]
        go_wp2_with fail
        go_ret
        exact ⟨by first | rfl | (rw [hr]; rfl) | simp [hr], HK.out⟩
    · have d1 : decide (0 ≤ g) = false := by simp; omega
      have hr : cost a b c d g = false := by unfold cost; rw [hi]; simp [h1]
      go_wp2_with fail
      go_ret
      exact ⟨by first | rfl | (rw [hr]; rfl) | simp [hr], HK.out⟩
def SRel (a b c d : Int) (w0 : World) (t i : Value) (wr : World) : Prop := Kept No w0 wr ∧ ((i = .int .i64 0 ∧ t = .int .i64 0) ∨ (i = .int .i64 1 ∧ t = .int .i64 a) ∨ (i = .int .i64 2 ∧ t = .int .i64 (a + b)) ∨ (i = .int .i64 3 ∧ t = .int .i64 (a + b + c)) ∨ (i = .int .i64 4 ∧ t = .int .i64 (a + b + c + d)))
set_option maxRecDepth 100000 in
theorem sum_any (a b c d : Int) (w : World) (h : in4 99 a b c d = true) : Calls Tryz.prog 75 #[.agg #[.int .i64 a, .int .i64 b, .int .i64 c, .int .i64 d]] w fun e w' => e = .returned (.int .i64 (a + b + c + d)) ∧ Kept No w w' := by
  obtain ⟨⟨a1, a2⟩, ⟨b1, b2⟩, ⟨c1, c2⟩, ⟨d1, d2⟩⟩ := in4_out h
  clear h
  have i0 := idx0 a b c d
  have i1 := idx1 a b c d
  have i2 := idx2 a b c d
  have i3 := idx3 a b c d
  go_enter Tryz.func75, Tryz.ntmps75
  go_wp2_with fail
  go_loopw [3, 7] (fun t i wr => SRel a b c d w t i wr) (fun _ i _ => 4 - (intOf i).toNat)
  case atStart => exact ⟨(Kept.refl No w).alloc _, .inl ⟨rfl, rfl⟩⟩
  case round =>
    obtain ⟨hkk, hr⟩ := hrel
    have HKK := Lib.hid hkk
    clear hkk
    rcases hr with ⟨rfl, rfl⟩ | ⟨rfl, rfl⟩ | ⟨rfl, rfl⟩ | ⟨rfl, rfl⟩ | ⟨rfl, rfl⟩
    · go_wp2_with fail
      exact ⟨⟨HKK.out, by simp⟩, by simp [intOf]⟩
    · go_wp2_with fail
      exact ⟨⟨HKK.out, by simp⟩, by simp [intOf]⟩
    · go_wp2_with fail
      exact ⟨⟨HKK.out, by simp⟩, by simp [intOf]⟩
    · go_wp2_with fail
      exact ⟨⟨HKK.out, by simp⟩, by simp [intOf]⟩
    · go_wp2_with fail
      go_ret
      exact ⟨rfl, HKK.out⟩
end Go.Proofs.YtclgoilfclmibaaGreatDoor
