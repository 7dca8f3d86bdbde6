/-
  Ticks: the walks through the functions that only reckon: Add, Since, Left, Due of the program and of the reference.
-/
import Derived.Test.YtchoepcfaadpfaaDoorRows
import Derived.Test.YtchoepcfaadpfaaDoorLib
import Derived.IntWalk
import Derived.Lib.MinMax
namespace Go.Proofs.YtchoepcfaadpfaaDoor
open Go.RowKit Go.Zn

/-- a time -/
def Tm (t : Int) : Prop := 0 ≤ t ∧ t ≤ 18446744073709551615
def addT (t n : Int) : Int := if 18446744073709551615 < t + n then 18446744073709551615 else t + n
def sinceT (a b : Int) : Int := if a ≤ b then 0 else a - b
def leftT (d a : Int) : Int := if d = 18446744073709551615 then 18446744073709551615 else sinceT d a
def dueT (d a : Int) : Bool := decide (d ≠ 18446744073709551615 ∧ d ≤ a)
theorem addT_tm {t n : Int} (h : Tm t) (h' : Tm n) : Tm (addT t n) := by unfold Tm addT at *; split <;> omega
theorem sinceT_tm {t n : Int} (h : Tm t) (h' : Tm n) : Tm (sinceT t n) := by unfold Tm sinceT at *; split <;> omega
theorem leftT_tm {t n : Int} (h : Tm t) (h' : Tm n) : Tm (leftT t n) := by
  unfold leftT; split
  · unfold Tm; omega
  · exact sinceT_tm h h'

set_option maxHeartbeats 400000 in
theorem add_any (t n : Int) (w : World) (ht : Tm t) (hn : Tm n) :
    Calls Tryd.prog 8 #[.int .u64 t, .int .u64 n] w fun e w' => e = .returned (.int .u64 (addT t n)) ∧ w = w' := by
  obtain ⟨h1, h2⟩ := ht
  obtain ⟨h3, h4⟩ := hn
  by_cases h : 18446744073709551615 < t + n
  · have e : addT t n = 18446744073709551615 := if_pos h
    have E := Lib.hid e
    clear e
    go_enter Tryd.func8, Tryd.ntmps8
    go_wp2
    go_ret
    exact ⟨by rw [E.out]; rfl, rfl⟩
  · have e : addT t n = t + n := if_neg h
    have E := Lib.hid e
    clear e
    go_enter Tryd.func8, Tryd.ntmps8
    go_wp2
    go_ret
    exact ⟨by rw [E.out]; rfl, rfl⟩
set_option maxHeartbeats 400000 in
theorem radd_any (t n : Int) (w : World) (ht : Tm t) (hn : Tm n) :
    Calls Tryd.prog 9 #[.int .u64 t, .int .u64 n] w fun e w' => e = .returned (.int .u64 (addT t n)) ∧ w = w' := by
  obtain ⟨h1, h2⟩ := ht
  obtain ⟨h3, h4⟩ := hn
  by_cases h : 18446744073709551615 < t + n
  · have e : addT t n = 18446744073709551615 := if_pos h
    have E := Lib.hid e
    obtain ⟨x, hx⟩ : ∃ x, IntKind.u64.wrap (t + n) = x := ⟨_, rfl⟩
    have hlt : x < t := by rw [← hx, IntKind.wrap_u64]; omega
    have d : decide (x < t) = true := by simp; exact hlt
    clear e hlt
    go_enter Tryd.func9, Tryd.ntmps9
    go_wp2
    go_ret
    exact ⟨by rw [E.out]; rfl, rfl⟩
  · have e : addT t n = t + n := if_neg h
    have E := Lib.hid e
    clear e
    go_enter Tryd.func9, Tryd.ntmps9
    go_wp2
    go_ret
    exact ⟨by rw [E.out]; rfl, rfl⟩
set_option maxHeartbeats 400000 in
theorem since_any (t n : Int) (w : World) (ht : Tm t) (hn : Tm n) :
    Calls Tryd.prog 10 #[.int .u64 t, .int .u64 n] w fun e w' => e = .returned (.int .u64 (sinceT t n)) ∧ w = w' := by
  obtain ⟨h1, h2⟩ := ht
  obtain ⟨h3, h4⟩ := hn
  by_cases h : t ≤ n
  · have e : sinceT t n = 0 := if_pos h
    have E := Lib.hid e
    clear e
    have m : min t n = t := by omega
    go_enter Tryd.func10, Tryd.ntmps10
    go_wp2
    go_ret
    exact ⟨by rw [E.out]; rfl, rfl⟩
  · have e : sinceT t n = t - n := if_neg h
    have E := Lib.hid e
    clear e
    have m : min t n = n := by omega
    go_enter Tryd.func10, Tryd.ntmps10
    go_wp2
    go_ret
    exact ⟨by rw [E.out]; rfl, rfl⟩
set_option maxHeartbeats 400000 in
theorem rsince_any (t n : Int) (w : World) (ht : Tm t) (hn : Tm n) :
    Calls Tryd.prog 11 #[.int .u64 t, .int .u64 n] w fun e w' => e = .returned (.int .u64 (sinceT t n)) ∧ w = w' := by
  obtain ⟨h1, h2⟩ := ht
  obtain ⟨h3, h4⟩ := hn
  by_cases h : t ≤ n
  · have e : sinceT t n = 0 := if_pos h
    have E := Lib.hid e
    clear e
    go_enter Tryd.func11, Tryd.ntmps11
    go_wp2
    go_ret
    exact ⟨by rw [E.out]; rfl, rfl⟩
  · have e : sinceT t n = t - n := if_neg h
    have E := Lib.hid e
    clear e
    go_enter Tryd.func11, Tryd.ntmps11
    go_wp2
    go_ret
    exact ⟨by rw [E.out]; rfl, rfl⟩
set_option maxHeartbeats 400000 in
theorem left_any (t n : Int) (w : World) (ht : Tm t) (hn : Tm n) :
    Calls Tryd.prog 13 #[.int .u64 t, .int .u64 n] w fun e w' => e = .returned (.int .u64 (leftT t n)) ∧ w = w' := by
  obtain ⟨h1, h2⟩ := ht
  obtain ⟨h3, h4⟩ := hn
  by_cases h : t = 18446744073709551615
  · have e : leftT t n = 18446744073709551615 := if_pos h
    have E := Lib.hid e
    clear e
    have d : (t == 18446744073709551615) = true := by simp; exact h
    go_enter Tryd.func13, Tryd.ntmps13
    go_wp2_with (go_at_call 10; refine (since_any _ _ _ ⟨h1, h2⟩ ⟨h3, h4⟩).mono ?_; rintro e w' ⟨rfl, rfl⟩)
    go_ret
    exact ⟨by rw [E.out]; rfl, rfl⟩
  · have e : leftT t n = sinceT t n := if_neg h
    have E := Lib.hid e
    clear e
    have d : (t == 18446744073709551615) = false := by simp; exact h
    go_enter Tryd.func13, Tryd.ntmps13
    go_wp2_with (go_at_call 10; refine (since_any _ _ _ ⟨h1, h2⟩ ⟨h3, h4⟩).mono ?_; rintro e w' ⟨rfl, rfl⟩)
    go_ret
    exact ⟨by rw [E.out]; rfl, rfl⟩
set_option maxHeartbeats 400000 in
theorem rleft_any (t n : Int) (w : World) (ht : Tm t) (hn : Tm n) :
    Calls Tryd.prog 14 #[.int .u64 t, .int .u64 n] w fun e w' => e = .returned (.int .u64 (leftT t n)) ∧ w = w' := by
  obtain ⟨h1, h2⟩ := ht
  obtain ⟨h3, h4⟩ := hn
  by_cases h : t = 18446744073709551615
  · have e : leftT t n = 18446744073709551615 := if_pos h
    have E := Lib.hid e
    clear e
    have d : (t == 18446744073709551615) = true := by simp; exact h
    go_enter Tryd.func14, Tryd.ntmps14
    go_wp2_with (go_at_call 11; refine (rsince_any _ _ _ ⟨h1, h2⟩ ⟨h3, h4⟩).mono ?_; rintro e w' ⟨rfl, rfl⟩)
    go_ret
    exact ⟨by rw [E.out]; rfl, rfl⟩
  · have e : leftT t n = sinceT t n := if_neg h
    have E := Lib.hid e
    clear e
    have d : (t == 18446744073709551615) = false := by simp; exact h
    go_enter Tryd.func14, Tryd.ntmps14
    go_wp2_with (go_at_call 11; refine (rsince_any _ _ _ ⟨h1, h2⟩ ⟨h3, h4⟩).mono ?_; rintro e w' ⟨rfl, rfl⟩)
    go_ret
    exact ⟨by rw [E.out]; rfl, rfl⟩
set_option maxHeartbeats 400000 in
theorem due_any (t n : Int) (w : World) (ht : Tm t) (hn : Tm n) :
    Calls Tryd.prog 15 #[.int .u64 t, .int .u64 n] w fun e w' => e = .returned (.bool (dueT t n)) ∧ w = w' := by
  obtain ⟨h1, h2⟩ := ht
  obtain ⟨h3, h4⟩ := hn
  by_cases h : t = 18446744073709551615
  · have e : dueT t n = false := by simp [dueT, h]
    have E := Lib.hid e
    have d : (t == 18446744073709551615) = true := by simp; exact h
    have d' : (t != 18446744073709551615) = false := by simp; exact h
    clear e h
    go_enter Tryd.func15, Tryd.ntmps15
    go_wp2
    go_ret
    exact ⟨by rw [E.out]; rfl, rfl⟩
  · by_cases h' : t ≤ n
    · have e : dueT t n = true := by simp [dueT, h, h']
      have E := Lib.hid e
      have d : (t == 18446744073709551615) = false := by simp; exact h
      have d' : (t != 18446744073709551615) = true := by simp; exact h
      have d2 : decide (t ≤ n) = true := by simp; exact h'
      clear e h h'
      go_enter Tryd.func15, Tryd.ntmps15
      go_wp2
      go_ret
      exact ⟨by rw [E.out]; rfl, rfl⟩
    · have e : dueT t n = false := by simp [dueT, h']
      have E := Lib.hid e
      have d : (t == 18446744073709551615) = false := by simp; exact h
      have d' : (t != 18446744073709551615) = true := by simp; exact h
      have d2 : decide (t ≤ n) = false := by simp; omega
      clear e h h'
      go_enter Tryd.func15, Tryd.ntmps15
      go_wp2
      go_ret
      exact ⟨by rw [E.out]; rfl, rfl⟩
set_option maxHeartbeats 400000 in
theorem rdue_any (t n : Int) (w : World) (ht : Tm t) (hn : Tm n) :
    Calls Tryd.prog 16 #[.int .u64 t, .int .u64 n] w fun e w' => e = .returned (.bool (dueT t n)) ∧ w = w' := by
  obtain ⟨h1, h2⟩ := ht
  obtain ⟨h3, h4⟩ := hn
  by_cases h : t = 18446744073709551615
  · have e : dueT t n = false := by simp [dueT, h]
    have E := Lib.hid e
    have d : (t == 18446744073709551615) = true := by simp; exact h
    have d' : (t != 18446744073709551615) = false := by simp; exact h
    clear e h
    go_enter Tryd.func16, Tryd.ntmps16
    go_wp2
    go_ret
    exact ⟨by rw [E.out]; rfl, rfl⟩
  · by_cases h' : t ≤ n
    · have e : dueT t n = true := by simp [dueT, h, h']
      have E := Lib.hid e
      have d : (t == 18446744073709551615) = false := by simp; exact h
      have d' : (t != 18446744073709551615) = true := by simp; exact h
      have d2 : decide (t ≤ n) = true := by simp; exact h'
      clear e h h'
      go_enter Tryd.func16, Tryd.ntmps16
      go_wp2
      go_ret
      exact ⟨by rw [E.out]; rfl, rfl⟩
    · have e : dueT t n = false := by simp [dueT, h']
      have E := Lib.hid e
      have d : (t == 18446744073709551615) = false := by simp; exact h
      have d' : (t != 18446744073709551615) = true := by simp; exact h
      have d2 : decide (t ≤ n) = false := by simp; omega
      clear e h h'
      go_enter Tryd.func16, Tryd.ntmps16
      go_wp2
      go_ret
      exact ⟨by rw [E.out]; rfl, rfl⟩
end Go.Proofs.YtchoepcfaadpfaaDoor
