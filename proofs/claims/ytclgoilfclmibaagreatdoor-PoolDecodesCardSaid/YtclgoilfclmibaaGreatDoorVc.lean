/-
  Pool: the document's rules of effects: letters, targets, numbers. Pool: the document's numbers of effects. Pool: which effects are valid by the document.
-/
import Derived.Test.YtclgoilfclmibaaGreatDoorSd
import Derived.BigQuiet
import Derived.Deep.RegionHeld
import Derived.OrdersHeld
set_option linter.unusedVariables false
set_option linter.unusedSimpArgs false
namespace Go.Proofs.YtclgoilfclmibaaGreatDoor
open Go Go.RowKit Go.Zn
attribute [local go_sem] Oper.semAt_some

def hasF (s : List UInt8) (c : UInt8) : Bool := s.any fun x => x == c
def HsRel (s : List UInt8) (c : UInt8) (w : World) (iv : Value) (wr : World) : Prop := ∃ i : Nat, iv = .int .i64 (i : Nat) ∧ i ≤ s.length ∧ hasF (s.take i) c = false ∧ wr = w
set_option maxRecDepth 100000 in
theorem has_any {s : List UInt8} (hl : s.length ≤ 1000000) (c : UInt8) (w : World) : Calls Tryz.prog 81 #[.string (strOf s), .int .u8 c.toNat] w fun e w' => e = .returned (.bool (hasF s c)) ∧ w' = w := by
  have hsz := strOf_size s
  obtain ⟨n, hn⟩ : ∃ n, s.length = n := ⟨_, rfl⟩
  have HN := Lib.hid hn
  rw [hn] at hsz hl
  obtain ⟨y, hy⟩ : ∃ y, c.toNat = y := ⟨_, rfl⟩
  have HY := Lib.hid hy
  rw [hy]
  clear hn hy
  go_enter Tryz.func81, Tryz.ntmps81
  go_wp2_with fail
  go_loopw [5] (fun iv wr => HsRel s c w iv wr) (fun iv _ => n - (intOf iv).toNat)
  case atStart => exact ⟨0, rfl, Nat.zero_le _, rfl, rfl⟩
  case round =>
    obtain ⟨i, rfl, hi, hf, rfl⟩ := hrel
    rw [HN.out] at hi
    have HF := Lib.hid hf
    by_cases hlt : i < n
    · have hil : i < s.length := by rw [HN.out]; exact hlt
      obtain ⟨b, hb⟩ : ∃ b, s[i]? = some b := ⟨_, List.getElem?_eq_getElem hil⟩
      have hix := str_idx hb
      have d1 : decide (i < n) = true := decide_eq_true hlt
      have hi0 : (0 : Int) ≤ (i : Int) := by omega
      have hin : (i : Int) < (n : Int) := by omega
      have q4 : IntKind.i64.wrap ((i : Int) + 1) = (i : Int) + 1 := IntWalk.i64_in _ (by omega)
      have HI := Lib.hid hlt
      have HT := Lib.hid (show s.take (i + 1) = s.take i ++ [b] by rw [List.take_add_one, hb]; rfl)
      have HM := Lib.hid (List.mem_of_getElem? hb)
      by_cases hbc : b = c
      · have e1 : ((b.toNat : Int) == (y : Int)) = true := by rw [hbc, HY.out]; simp
        have e2 : (b.toNat == y) = true := by rw [hbc, HY.out]; simp
        have HR := Lib.hid (show hasF s c = true by unfold hasF; rw [List.any_eq_true]; exact ⟨b, HM.out, by simp [hbc]⟩)
        obtain ⟨x, hx⟩ : ∃ x, b.toNat = x := ⟨_, rfl⟩
        rw [hx] at e1 e2 hix
        clear hf hlt hil hb hbc hx
        go_wp2_with fail
        go_ret
        exact ⟨by rw [HR.out]; rfl, rfl⟩
      · have hne : b.toNat ≠ y := fun h => hbc (UInt8.toNat_inj.1 (by rw [h, HY.out]))
        have e1 : ((b.toNat : Int) == (y : Int)) = false := by simp; omega
        have e2 : (b.toNat == y) = false := by simpa using hne
        have HG := Lib.hid (show hasF (s.take (i + 1)) c = false by rw [HT.out]; unfold hasF at hf ⊢; rw [List.any_append, hf]; simpa using hbc)
        obtain ⟨x, hx⟩ : ∃ x, b.toNat = x := ⟨_, rfl⟩
        rw [hx] at e1 e2 hix
        have hne2 : ¬ ((x : Int) = (y : Int)) := by omega
        clear hf hlt hil hb hbc hx hne
        go_wp2_with fail
        have hI := HI.out
        exact ⟨⟨i + 1, by go_num, by rw [HN.out]; omega, HG.out, rfl⟩, by simp [intOf]; omega⟩
    · have d1 : decide (i < n) = false := decide_eq_false hlt
      have HR := Lib.hid (show hasF s c = false by
        have := HF.out
        rw [List.take_of_length_le (by rw [HN.out]; omega)] at this
        exact this)
      clear hf hlt
      go_wp2_with fail
      go_ret
      exact ⟨by rw [HR.out]; rfl, rfl⟩
def tgtF (c : Int) : List UInt8 :=
  if c = 1 then [99, 111, 120, 112, 101] else if c = 2 then [110, 112] else if c = 3 then [110, 112] else if c = 4 then [110, 112] else if c = 5 then [99, 111, 120] else if c = 6 then [99, 111, 120] else if c = 7 then [115] else if c = 8 then [110, 99, 111, 120] else if c = 9 then [110, 99, 111, 120] else if c = 10 then [110] else if c = 11 then [99, 111, 120] else if c = 12 then [110] else []
def letF (t : Int) : UInt8 :=
  if t = 0 then 110 else if t = 1 then 99 else if t = 2 then 111 else if t = 3 then 120 else if t = 4 then 112 else if t = 5 then 101 else if t = 6 then 115 else 63
set_option maxRecDepth 100000 in
theorem letter_any (t : Int) (w : World) : Calls Tryz.prog 83 #[.int .i64 t] w fun e w' => e = .returned (.int .u8 (letF t).toNat) ∧ w' = w := by
  by_cases h0 : t < 0
  · have HR := Lib.hid (show letF t = 63 by unfold letF; repeat rw [if_neg (by omega)])
    go_enter Tryz.func83, Tryz.ntmps83
    go_wp2_with fail
    go_ret
    exact ⟨by rw [HR.out]; rfl, rfl⟩
  by_cases h6 : 6 < t
  · have HR := Lib.hid (show letF t = 63 by unfold letF; repeat rw [if_neg (by omega)])
    go_enter Tryz.func83, Tryz.ntmps83
    go_wp2_with fail
    go_ret
    exact ⟨by rw [HR.out]; rfl, rfl⟩
  have ix := fun (i : Nat) (b : UInt8) (h : ([110, 99, 111, 120, 112, 101, 115] : List UInt8)[i]? = some b) (W : World) => str_idx h W
  have hc : t = 0 ∨ t = 1 ∨ t = 2 ∨ t = 3 ∨ t = 4 ∨ t = 5 ∨ t = 6 := by omega
  clear h0 h6
  rcases hc with rfl | rfl | rfl | rfl | rfl | rfl | rfl
  · have h1 : ∀ W, (Instr.index 9 (.string { data := #[110, 99, 111, 120, 112, 101, 115] }) (.int .i64 0)).run Tryz.prog W = .ok (.int .u8 110) W := ix 0 110 rfl
    clear ix
    go_enter Tryz.func83, Tryz.ntmps83
    go_wp2_with fail
    go_ret
    exact ⟨rfl, rfl⟩
  · have h1 : ∀ W, (Instr.index 9 (.string { data := #[110, 99, 111, 120, 112, 101, 115] }) (.int .i64 1)).run Tryz.prog W = .ok (.int .u8 99) W := ix 1 99 rfl
    clear ix
    go_enter Tryz.func83, Tryz.ntmps83
    go_wp2_with fail
    go_ret
    exact ⟨rfl, rfl⟩
  · have h1 : ∀ W, (Instr.index 9 (.string { data := #[110, 99, 111, 120, 112, 101, 115] }) (.int .i64 2)).run Tryz.prog W = .ok (.int .u8 111) W := ix 2 111 rfl
    clear ix
    go_enter Tryz.func83, Tryz.ntmps83
    go_wp2_with fail
    go_ret
    exact ⟨rfl, rfl⟩
  · have h1 : ∀ W, (Instr.index 9 (.string { data := #[110, 99, 111, 120, 112, 101, 115] }) (.int .i64 3)).run Tryz.prog W = .ok (.int .u8 120) W := ix 3 120 rfl
    clear ix
    go_enter Tryz.func83, Tryz.ntmps83
    go_wp2_with fail
    go_ret
    exact ⟨rfl, rfl⟩
  · have h1 : ∀ W, (Instr.index 9 (.string { data := #[110, 99, 111, 120, 112, 101, 115] }) (.int .i64 4)).run Tryz.prog W = .ok (.int .u8 112) W := ix 4 112 rfl
    clear ix
    go_enter Tryz.func83, Tryz.ntmps83
    go_wp2_with fail
    go_ret
    exact ⟨rfl, rfl⟩
  · have h1 : ∀ W, (Instr.index 9 (.string { data := #[110, 99, 111, 120, 112, 101, 115] }) (.int .i64 5)).run Tryz.prog W = .ok (.int .u8 101) W := ix 5 101 rfl
    clear ix
    go_enter Tryz.func83, Tryz.ntmps83
    go_wp2_with fail
    go_ret
    exact ⟨rfl, rfl⟩
  · have h1 : ∀ W, (Instr.index 9 (.string { data := #[110, 99, 111, 120, 112, 101, 115] }) (.int .i64 6)).run Tryz.prog W = .ok (.int .u8 115) W := ix 6 115 rfl
    clear ix
    go_enter Tryz.func83, Tryz.ntmps83
    go_wp2_with fail
    go_ret
    exact ⟨rfl, rfl⟩
set_option maxRecDepth 100000 in
set_option maxHeartbeats 4000000 in
theorem targets06_any (c : Int) (w : World) : Calls Tryz.prog 82 #[.int .i64 c] w fun e w' => e = .returned (.string (strOf (tgtF c))) ∧ Kept No w w' := by
  by_cases h0 : c < 1
  · have HR := Lib.hid (show tgtF c = [] by unfold tgtF; repeat rw [if_neg (by omega)])
    go_enter Tryz.func82, Tryz.ntmps82
    go_wp2_with fail
    go_ret
    exact ⟨by rw [HR.out]; rfl, (Kept.refl No w).alloc _⟩
  by_cases h6 : 13 ≤ c
  · have HR := Lib.hid (show tgtF c = [] by unfold tgtF; repeat rw [if_neg (by omega)])
    go_enter Tryz.func82, Tryz.ntmps82
    go_wp2_with fail
    go_ret
    exact ⟨by rw [HR.out]; rfl, (Kept.refl No w).alloc _⟩
  have hc : c = 1 ∨ c = 2 ∨ c = 3 ∨ c = 4 ∨ c = 5 ∨ c = 6 ∨ c = 7 ∨ c = 8 ∨ c = 9 ∨ c = 10 ∨ c = 11 ∨ c = 12 := by omega
  clear h0 h6
  rcases hc with rfl | rfl | rfl | rfl | rfl | rfl | rfl | rfl | rfl | rfl | rfl | rfl
  all_goals
    go_enter Tryz.func82, Tryz.ntmps82
    go_wp2_with fail
    go_ret
    exact ⟨rfl, (Kept.refl No w).alloc _⟩
end Go.Proofs.YtclgoilfclmibaaGreatDoor
namespace Go.Proofs.YtclgoilfclmibaaGreatDoor
open Go Go.RowKit Go.Zn
attribute [local go_sem] Oper.semAt_some

def enumF (e : Eff) : Bool :=
  if e.code = 1 ∨ e.code = 3 ∨ e.code = 4 then decide (1 ≤ e.n ∧ e.n ≤ 99 ∧ e.m = 0 ∧ e.col = 0)
  else if e.code = 2 then decide (1 ≤ e.n ∧ e.n ≤ 7 ∧ e.m = 0 ∧ e.col = 0)
  else if e.code = 8 then decide (0 ≤ e.n ∧ e.n ≤ 9 ∧ 0 ≤ e.m ∧ e.m ≤ 9 ∧ 0 < e.n + e.m ∧ e.col = 0)
  else if e.code = 9 then decide (1 ≤ e.n ∧ e.n ≤ 9 ∧ e.m = 0 ∧ e.col = 0)
  else if e.code = 10 then decide (0 ≤ e.n ∧ e.n ≤ 9 ∧ 1 ≤ e.m ∧ e.m ≤ 9 ∧ e.col = 0)
  else if e.code = 12 then decide (1 ≤ e.n ∧ e.n ≤ 9 ∧ e.m = 0 ∧ 0 ≤ e.col ∧ e.col ≤ 3)
  else decide (e.n = 0 ∧ e.m = 0 ∧ e.col = 0)
theorem enum_1 (k : Int) (hk : k = 1 ∨ k = 3 ∨ k = 4) (t n m c : Int) : enumF ⟨k, t, n, m, c⟩ = decide (1 ≤ n ∧ n ≤ 99 ∧ m = 0 ∧ c = 0) := if_pos hk
theorem enum_2 (t n m c : Int) : enumF ⟨2, t, n, m, c⟩ = decide (1 ≤ n ∧ n ≤ 7 ∧ m = 0 ∧ c = 0) := by unfold enumF; simp
theorem enum_8 (t n m c : Int) : enumF ⟨8, t, n, m, c⟩ = decide (0 ≤ n ∧ n ≤ 9 ∧ 0 ≤ m ∧ m ≤ 9 ∧ 0 < n + m ∧ c = 0) := by unfold enumF; simp
theorem enum_9 (t n m c : Int) : enumF ⟨9, t, n, m, c⟩ = decide (1 ≤ n ∧ n ≤ 9 ∧ m = 0 ∧ c = 0) := by unfold enumF; simp
theorem enum_10 (t n m c : Int) : enumF ⟨10, t, n, m, c⟩ = decide (0 ≤ n ∧ n ≤ 9 ∧ 1 ≤ m ∧ m ≤ 9 ∧ c = 0) := by unfold enumF; simp
theorem enum_12 (t n m c : Int) : enumF ⟨12, t, n, m, c⟩ = decide (1 ≤ n ∧ n ≤ 9 ∧ m = 0 ∧ 0 ≤ c ∧ c ≤ 3) := by unfold enumF; simp
theorem enum_else {k : Int} (h : k ≠ 1 ∧ k ≠ 2 ∧ k ≠ 3 ∧ k ≠ 4 ∧ k ≠ 8 ∧ k ≠ 9 ∧ k ≠ 10 ∧ k ≠ 12) (t n m c : Int) : enumF ⟨k, t, n, m, c⟩ = decide (n = 0 ∧ m = 0 ∧ c = 0) := by
  unfold enumF
  rw [if_neg (by show ¬ (k = 1 ∨ k = 3 ∨ k = 4); omega), if_neg (by show ¬ k = 2; omega), if_neg (by show ¬ k = 8; omega), if_neg (by show ¬ k = 9; omega), if_neg (by show ¬ k = 10; omega), if_neg (by show ¬ k = 12; omega)]
set_option maxRecDepth 100000 in
set_option maxHeartbeats 8000000 in
theorem numbers_any (k t n m c : Int) (w : World) : Calls Tryz.prog 84 #[.agg #[.int .i64 k, .int .i64 t, .int .i64 n, .int .i64 m, .int .i64 c]] w fun e w' => e = .returned (.bool (enumF ⟨k, t, n, m, c⟩)) ∧ Kept No w w' := by
  have HK0 := Lib.hid (Kept.refl No w)
  by_cases k1 : k = 1
  · subst k1
    by_cases z0 : 1 ≤ n
    rotate_left
    · rw [show enumF ⟨1, t, n, m, c⟩ = false by rw [enum_1 _ (by omega), decide_eq_false (by omega)]]
      go_enter Tryz.func84, Tryz.ntmps84
      go_wp2_with fail
      go_quiet (fail)
      go_wp2_with fail
      go_ret
      first | exact ⟨rfl, (HK0.out.alloc _).drewN _⟩ | exact ⟨congrArg (fun b => Ending.returned (.bool b)) (decide_eq_false (by omega)), (HK0.out.alloc _).drewN _⟩
    by_cases z1 : n ≤ 99
    rotate_left
    · rw [show enumF ⟨1, t, n, m, c⟩ = false by rw [enum_1 _ (by omega), decide_eq_false (by omega)]]
      go_enter Tryz.func84, Tryz.ntmps84
      go_wp2_with fail
      go_quiet (fail)
      go_wp2_with fail
      go_ret
      first | exact ⟨rfl, (HK0.out.alloc _).drewN _⟩ | exact ⟨congrArg (fun b => Ending.returned (.bool b)) (decide_eq_false (by omega)), (HK0.out.alloc _).drewN _⟩
    by_cases z2 : m = 0
    rotate_left
    · have y0 : (m == 0) = false := by simpa using z2
      rw [show enumF ⟨1, t, n, m, c⟩ = false by rw [enum_1 _ (by omega), decide_eq_false (by omega)]]
      go_enter Tryz.func84, Tryz.ntmps84
      go_wp2_with fail
      go_quiet (fail)
      go_wp2_with fail
      go_ret
      first | exact ⟨rfl, (HK0.out.alloc _).drewN _⟩ | exact ⟨congrArg (fun b => Ending.returned (.bool b)) (decide_eq_false (by omega)), (HK0.out.alloc _).drewN _⟩
    by_cases z3 : c = 0
    rotate_left
    · have y0 : (c == 0) = false := by simpa using z3
      rw [show enumF ⟨1, t, n, m, c⟩ = false by rw [enum_1 _ (by omega), decide_eq_false (by omega)]]
      go_enter Tryz.func84, Tryz.ntmps84
      go_wp2_with fail
      go_quiet (fail)
      go_wp2_with fail
      go_ret
      first | exact ⟨rfl, (HK0.out.alloc _).drewN _⟩ | exact ⟨congrArg (fun b => Ending.returned (.bool b)) (decide_eq_false (by omega)), (HK0.out.alloc _).drewN _⟩
    rw [show enumF ⟨1, t, n, m, c⟩ = true by rw [enum_1 _ (by omega), decide_eq_true (by omega)]]
    go_enter Tryz.func84, Tryz.ntmps84
    go_wp2_with fail
    go_quiet (fail)
    go_wp2_with fail
    go_ret
    first | exact ⟨rfl, (HK0.out.alloc _).drewN _⟩ | exact ⟨congrArg (fun b => Ending.returned (.bool b)) (decide_eq_false (by omega)), (HK0.out.alloc _).drewN _⟩
  by_cases k3 : k = 3
  · subst k3
    by_cases z0 : 1 ≤ n
    rotate_left
    · rw [show enumF ⟨3, t, n, m, c⟩ = false by rw [enum_1 _ (by omega), decide_eq_false (by omega)]]
      go_enter Tryz.func84, Tryz.ntmps84
      go_wp2_with fail
      go_quiet (fail)
      go_wp2_with fail
      go_ret
      first | exact ⟨rfl, (HK0.out.alloc _).drewN _⟩ | exact ⟨congrArg (fun b => Ending.returned (.bool b)) (decide_eq_false (by omega)), (HK0.out.alloc _).drewN _⟩
    by_cases z1 : n ≤ 99
    rotate_left
    · rw [show enumF ⟨3, t, n, m, c⟩ = false by rw [enum_1 _ (by omega), decide_eq_false (by omega)]]
      go_enter Tryz.func84, Tryz.ntmps84
      go_wp2_with fail
      go_quiet (fail)
      go_wp2_with fail
      go_ret
      first | exact ⟨rfl, (HK0.out.alloc _).drewN _⟩ | exact ⟨congrArg (fun b => Ending.returned (.bool b)) (decide_eq_false (by omega)), (HK0.out.alloc _).drewN _⟩
    by_cases z2 : m = 0
    rotate_left
    · have y0 : (m == 0) = false := by simpa using z2
      rw [show enumF ⟨3, t, n, m, c⟩ = false by rw [enum_1 _ (by omega), decide_eq_false (by omega)]]
      go_enter Tryz.func84, Tryz.ntmps84
      go_wp2_with fail
      go_quiet (fail)
      go_wp2_with fail
      go_ret
      first | exact ⟨rfl, (HK0.out.alloc _).drewN _⟩ | exact ⟨congrArg (fun b => Ending.returned (.bool b)) (decide_eq_false (by omega)), (HK0.out.alloc _).drewN _⟩
    by_cases z3 : c = 0
    rotate_left
    · have y0 : (c == 0) = false := by simpa using z3
      rw [show enumF ⟨3, t, n, m, c⟩ = false by rw [enum_1 _ (by omega), decide_eq_false (by omega)]]
      go_enter Tryz.func84, Tryz.ntmps84
      go_wp2_with fail
      go_quiet (fail)
      go_wp2_with fail
      go_ret
      first | exact ⟨rfl, (HK0.out.alloc _).drewN _⟩ | exact ⟨congrArg (fun b => Ending.returned (.bool b)) (decide_eq_false (by omega)), (HK0.out.alloc _).drewN _⟩
    rw [show enumF ⟨3, t, n, m, c⟩ = true by rw [enum_1 _ (by omega), decide_eq_true (by omega)]]
    go_enter Tryz.func84, Tryz.ntmps84
    go_wp2_with fail
    go_quiet (fail)
    go_wp2_with fail
    go_ret
    first | exact ⟨rfl, (HK0.out.alloc _).drewN _⟩ | exact ⟨congrArg (fun b => Ending.returned (.bool b)) (decide_eq_false (by omega)), (HK0.out.alloc _).drewN _⟩
  by_cases k4 : k = 4
  · subst k4
    by_cases z0 : 1 ≤ n
    rotate_left
    · rw [show enumF ⟨4, t, n, m, c⟩ = false by rw [enum_1 _ (by omega), decide_eq_false (by omega)]]
      go_enter Tryz.func84, Tryz.ntmps84
      go_wp2_with fail
      go_quiet (fail)
      go_wp2_with fail
      go_ret
      first | exact ⟨rfl, (HK0.out.alloc _).drewN _⟩ | exact ⟨congrArg (fun b => Ending.returned (.bool b)) (decide_eq_false (by omega)), (HK0.out.alloc _).drewN _⟩
    by_cases z1 : n ≤ 99
    rotate_left
    · rw [show enumF ⟨4, t, n, m, c⟩ = false by rw [enum_1 _ (by omega), decide_eq_false (by omega)]]
      go_enter Tryz.func84, Tryz.ntmps84
      go_wp2_with fail
      go_quiet (fail)
      go_wp2_with fail
      go_ret
      first | exact ⟨rfl, (HK0.out.alloc _).drewN _⟩ | exact ⟨congrArg (fun b => Ending.returned (.bool b)) (decide_eq_false (by omega)), (HK0.out.alloc _).drewN _⟩
    by_cases z2 : m = 0
    rotate_left
    · have y0 : (m == 0) = false := by simpa using z2
      rw [show enumF ⟨4, t, n, m, c⟩ = false by rw [enum_1 _ (by omega), decide_eq_false (by omega)]]
      go_enter Tryz.func84, Tryz.ntmps84
      go_wp2_with fail
      go_quiet (fail)
      go_wp2_with fail
      go_ret
      first | exact ⟨rfl, (HK0.out.alloc _).drewN _⟩ | exact ⟨congrArg (fun b => Ending.returned (.bool b)) (decide_eq_false (by omega)), (HK0.out.alloc _).drewN _⟩
    by_cases z3 : c = 0
    rotate_left
    · have y0 : (c == 0) = false := by simpa using z3
      rw [show enumF ⟨4, t, n, m, c⟩ = false by rw [enum_1 _ (by omega), decide_eq_false (by omega)]]
      go_enter Tryz.func84, Tryz.ntmps84
      go_wp2_with fail
      go_quiet (fail)
      go_wp2_with fail
      go_ret
      first | exact ⟨rfl, (HK0.out.alloc _).drewN _⟩ | exact ⟨congrArg (fun b => Ending.returned (.bool b)) (decide_eq_false (by omega)), (HK0.out.alloc _).drewN _⟩
    rw [show enumF ⟨4, t, n, m, c⟩ = true by rw [enum_1 _ (by omega), decide_eq_true (by omega)]]
    go_enter Tryz.func84, Tryz.ntmps84
    go_wp2_with fail
    go_quiet (fail)
    go_wp2_with fail
    go_ret
    first | exact ⟨rfl, (HK0.out.alloc _).drewN _⟩ | exact ⟨congrArg (fun b => Ending.returned (.bool b)) (decide_eq_false (by omega)), (HK0.out.alloc _).drewN _⟩
  by_cases k2 : k = 2
  · subst k2
    by_cases z0 : 1 ≤ n
    rotate_left
    · rw [show enumF ⟨2, t, n, m, c⟩ = false by rw [enum_2, decide_eq_false (by omega)]]
      go_enter Tryz.func84, Tryz.ntmps84
      go_wp2_with fail
      go_quiet (fail)
      go_wp2_with fail
      go_ret
      first | exact ⟨rfl, (HK0.out.alloc _).drewN _⟩ | exact ⟨congrArg (fun b => Ending.returned (.bool b)) (decide_eq_false (by omega)), (HK0.out.alloc _).drewN _⟩
    by_cases z1 : n ≤ 7
    rotate_left
    · rw [show enumF ⟨2, t, n, m, c⟩ = false by rw [enum_2, decide_eq_false (by omega)]]
      go_enter Tryz.func84, Tryz.ntmps84
      go_wp2_with fail
      go_quiet (fail)
      go_wp2_with fail
      go_ret
      first | exact ⟨rfl, (HK0.out.alloc _).drewN _⟩ | exact ⟨congrArg (fun b => Ending.returned (.bool b)) (decide_eq_false (by omega)), (HK0.out.alloc _).drewN _⟩
    by_cases z2 : m = 0
    rotate_left
    · have y0 : (m == 0) = false := by simpa using z2
      rw [show enumF ⟨2, t, n, m, c⟩ = false by rw [enum_2, decide_eq_false (by omega)]]
      go_enter Tryz.func84, Tryz.ntmps84
      go_wp2_with fail
      go_quiet (fail)
      go_wp2_with fail
      go_ret
      first | exact ⟨rfl, (HK0.out.alloc _).drewN _⟩ | exact ⟨congrArg (fun b => Ending.returned (.bool b)) (decide_eq_false (by omega)), (HK0.out.alloc _).drewN _⟩
    by_cases z3 : c = 0
    rotate_left
    · have y0 : (c == 0) = false := by simpa using z3
      rw [show enumF ⟨2, t, n, m, c⟩ = false by rw [enum_2, decide_eq_false (by omega)]]
      go_enter Tryz.func84, Tryz.ntmps84
      go_wp2_with fail
      go_quiet (fail)
      go_wp2_with fail
      go_ret
      first | exact ⟨rfl, (HK0.out.alloc _).drewN _⟩ | exact ⟨congrArg (fun b => Ending.returned (.bool b)) (decide_eq_false (by omega)), (HK0.out.alloc _).drewN _⟩
    rw [show enumF ⟨2, t, n, m, c⟩ = true by rw [enum_2, decide_eq_true (by omega)]]
    go_enter Tryz.func84, Tryz.ntmps84
    go_wp2_with fail
    go_quiet (fail)
    go_wp2_with fail
    go_ret
    first | exact ⟨rfl, (HK0.out.alloc _).drewN _⟩ | exact ⟨congrArg (fun b => Ending.returned (.bool b)) (decide_eq_false (by omega)), (HK0.out.alloc _).drewN _⟩
  by_cases k8 : k = 8
  · subst k8
    by_cases z0 : 0 ≤ n
    rotate_left
    · rw [show enumF ⟨8, t, n, m, c⟩ = false by rw [enum_8, decide_eq_false (by omega)]]
      go_enter Tryz.func84, Tryz.ntmps84
      go_wp2_with fail
      go_quiet (fail)
      go_wp2_with fail
      go_ret
      first | exact ⟨rfl, (HK0.out.alloc _).drewN _⟩ | exact ⟨congrArg (fun b => Ending.returned (.bool b)) (decide_eq_false (by omega)), (HK0.out.alloc _).drewN _⟩
    by_cases z1 : n ≤ 9
    rotate_left
    · rw [show enumF ⟨8, t, n, m, c⟩ = false by rw [enum_8, decide_eq_false (by omega)]]
      go_enter Tryz.func84, Tryz.ntmps84
      go_wp2_with fail
      go_quiet (fail)
      go_wp2_with fail
      go_ret
      first | exact ⟨rfl, (HK0.out.alloc _).drewN _⟩ | exact ⟨congrArg (fun b => Ending.returned (.bool b)) (decide_eq_false (by omega)), (HK0.out.alloc _).drewN _⟩
    by_cases z2 : 0 ≤ m
    rotate_left
    · rw [show enumF ⟨8, t, n, m, c⟩ = false by rw [enum_8, decide_eq_false (by omega)]]
      go_enter Tryz.func84, Tryz.ntmps84
      go_wp2_with fail
      go_quiet (fail)
      go_wp2_with fail
      go_ret
      first | exact ⟨rfl, (HK0.out.alloc _).drewN _⟩ | exact ⟨congrArg (fun b => Ending.returned (.bool b)) (decide_eq_false (by omega)), (HK0.out.alloc _).drewN _⟩
    by_cases z3 : m ≤ 9
    rotate_left
    · rw [show enumF ⟨8, t, n, m, c⟩ = false by rw [enum_8, decide_eq_false (by omega)]]
      go_enter Tryz.func84, Tryz.ntmps84
      go_wp2_with fail
      go_quiet (fail)
      go_wp2_with fail
      go_ret
      first | exact ⟨rfl, (HK0.out.alloc _).drewN _⟩ | exact ⟨congrArg (fun b => Ending.returned (.bool b)) (decide_eq_false (by omega)), (HK0.out.alloc _).drewN _⟩
    have qw : IntKind.i64.wrap (n + m) = n + m := IntWalk.i64_in _ (by omega)
    by_cases z4 : 0 < n + m
    rotate_left
    · rw [show enumF ⟨8, t, n, m, c⟩ = false by rw [enum_8, decide_eq_false (by omega)]]
      go_enter Tryz.func84, Tryz.ntmps84
      go_wp2_with fail
      go_quiet (fail)
      go_wp2_with fail
      go_ret
      first | exact ⟨rfl, (HK0.out.alloc _).drewN _⟩ | exact ⟨congrArg (fun b => Ending.returned (.bool b)) (decide_eq_false (by omega)), (HK0.out.alloc _).drewN _⟩
    by_cases z5 : c = 0
    rotate_left
    · have y0 : (c == 0) = false := by simpa using z5
      rw [show enumF ⟨8, t, n, m, c⟩ = false by rw [enum_8, decide_eq_false (by omega)]]
      go_enter Tryz.func84, Tryz.ntmps84
      go_wp2_with fail
      go_quiet (fail)
      go_wp2_with fail
      go_ret
      first | exact ⟨rfl, (HK0.out.alloc _).drewN _⟩ | exact ⟨congrArg (fun b => Ending.returned (.bool b)) (decide_eq_false (by omega)), (HK0.out.alloc _).drewN _⟩
    rw [show enumF ⟨8, t, n, m, c⟩ = true by rw [enum_8, decide_eq_true (by omega)]]
    go_enter Tryz.func84, Tryz.ntmps84
    go_wp2_with fail
    go_quiet (fail)
    go_wp2_with fail
    go_ret
    first | exact ⟨rfl, (HK0.out.alloc _).drewN _⟩ | exact ⟨congrArg (fun b => Ending.returned (.bool b)) (decide_eq_false (by omega)), (HK0.out.alloc _).drewN _⟩
  by_cases k9 : k = 9
  · subst k9
    by_cases z0 : 1 ≤ n
    rotate_left
    · rw [show enumF ⟨9, t, n, m, c⟩ = false by rw [enum_9, decide_eq_false (by omega)]]
      go_enter Tryz.func84, Tryz.ntmps84
      go_wp2_with fail
      go_quiet (fail)
      go_wp2_with fail
      go_ret
      first | exact ⟨rfl, (HK0.out.alloc _).drewN _⟩ | exact ⟨congrArg (fun b => Ending.returned (.bool b)) (decide_eq_false (by omega)), (HK0.out.alloc _).drewN _⟩
    by_cases z1 : n ≤ 9
    rotate_left
    · rw [show enumF ⟨9, t, n, m, c⟩ = false by rw [enum_9, decide_eq_false (by omega)]]
      go_enter Tryz.func84, Tryz.ntmps84
      go_wp2_with fail
      go_quiet (fail)
      go_wp2_with fail
      go_ret
      first | exact ⟨rfl, (HK0.out.alloc _).drewN _⟩ | exact ⟨congrArg (fun b => Ending.returned (.bool b)) (decide_eq_false (by omega)), (HK0.out.alloc _).drewN _⟩
    by_cases z2 : m = 0
    rotate_left
    · have y0 : (m == 0) = false := by simpa using z2
      rw [show enumF ⟨9, t, n, m, c⟩ = false by rw [enum_9, decide_eq_false (by omega)]]
      go_enter Tryz.func84, Tryz.ntmps84
      go_wp2_with fail
      go_quiet (fail)
      go_wp2_with fail
      go_ret
      first | exact ⟨rfl, (HK0.out.alloc _).drewN _⟩ | exact ⟨congrArg (fun b => Ending.returned (.bool b)) (decide_eq_false (by omega)), (HK0.out.alloc _).drewN _⟩
    by_cases z3 : c = 0
    rotate_left
    · have y0 : (c == 0) = false := by simpa using z3
      rw [show enumF ⟨9, t, n, m, c⟩ = false by rw [enum_9, decide_eq_false (by omega)]]
      go_enter Tryz.func84, Tryz.ntmps84
      go_wp2_with fail
      go_quiet (fail)
      go_wp2_with fail
      go_ret
      first | exact ⟨rfl, (HK0.out.alloc _).drewN _⟩ | exact ⟨congrArg (fun b => Ending.returned (.bool b)) (decide_eq_false (by omega)), (HK0.out.alloc _).drewN _⟩
    rw [show enumF ⟨9, t, n, m, c⟩ = true by rw [enum_9, decide_eq_true (by omega)]]
    go_enter Tryz.func84, Tryz.ntmps84
    go_wp2_with fail
    go_quiet (fail)
    go_wp2_with fail
    go_ret
    first | exact ⟨rfl, (HK0.out.alloc _).drewN _⟩ | exact ⟨congrArg (fun b => Ending.returned (.bool b)) (decide_eq_false (by omega)), (HK0.out.alloc _).drewN _⟩
  by_cases k10 : k = 10
  · subst k10
    by_cases z0 : 0 ≤ n
    rotate_left
    · rw [show enumF ⟨10, t, n, m, c⟩ = false by rw [enum_10, decide_eq_false (by omega)]]
      go_enter Tryz.func84, Tryz.ntmps84
      go_wp2_with fail
      go_quiet (fail)
      go_wp2_with fail
      go_ret
      first | exact ⟨rfl, (HK0.out.alloc _).drewN _⟩ | exact ⟨congrArg (fun b => Ending.returned (.bool b)) (decide_eq_false (by omega)), (HK0.out.alloc _).drewN _⟩
    by_cases z1 : n ≤ 9
    rotate_left
    · rw [show enumF ⟨10, t, n, m, c⟩ = false by rw [enum_10, decide_eq_false (by omega)]]
      go_enter Tryz.func84, Tryz.ntmps84
      go_wp2_with fail
      go_quiet (fail)
      go_wp2_with fail
      go_ret
      first | exact ⟨rfl, (HK0.out.alloc _).drewN _⟩ | exact ⟨congrArg (fun b => Ending.returned (.bool b)) (decide_eq_false (by omega)), (HK0.out.alloc _).drewN _⟩
    by_cases z2 : 1 ≤ m
    rotate_left
    · rw [show enumF ⟨10, t, n, m, c⟩ = false by rw [enum_10, decide_eq_false (by omega)]]
      go_enter Tryz.func84, Tryz.ntmps84
      go_wp2_with fail
      go_quiet (fail)
      go_wp2_with fail
      go_ret
      first | exact ⟨rfl, (HK0.out.alloc _).drewN _⟩ | exact ⟨congrArg (fun b => Ending.returned (.bool b)) (decide_eq_false (by omega)), (HK0.out.alloc _).drewN _⟩
    by_cases z3 : m ≤ 9
    rotate_left
    · rw [show enumF ⟨10, t, n, m, c⟩ = false by rw [enum_10, decide_eq_false (by omega)]]
      go_enter Tryz.func84, Tryz.ntmps84
      go_wp2_with fail
      go_quiet (fail)
      go_wp2_with fail
      go_ret
      first | exact ⟨rfl, (HK0.out.alloc _).drewN _⟩ | exact ⟨congrArg (fun b => Ending.returned (.bool b)) (decide_eq_false (by omega)), (HK0.out.alloc _).drewN _⟩
    by_cases z4 : c = 0
    rotate_left
    · have y0 : (c == 0) = false := by simpa using z4
      rw [show enumF ⟨10, t, n, m, c⟩ = false by rw [enum_10, decide_eq_false (by omega)]]
      go_enter Tryz.func84, Tryz.ntmps84
      go_wp2_with fail
      go_quiet (fail)
      go_wp2_with fail
      go_ret
      first | exact ⟨rfl, (HK0.out.alloc _).drewN _⟩ | exact ⟨congrArg (fun b => Ending.returned (.bool b)) (decide_eq_false (by omega)), (HK0.out.alloc _).drewN _⟩
    rw [show enumF ⟨10, t, n, m, c⟩ = true by rw [enum_10, decide_eq_true (by omega)]]
    go_enter Tryz.func84, Tryz.ntmps84
    go_wp2_with fail
    go_quiet (fail)
    go_wp2_with fail
    go_ret
    first | exact ⟨rfl, (HK0.out.alloc _).drewN _⟩ | exact ⟨congrArg (fun b => Ending.returned (.bool b)) (decide_eq_false (by omega)), (HK0.out.alloc _).drewN _⟩
  by_cases k12 : k = 12
  · subst k12
    by_cases z0 : 1 ≤ n
    rotate_left
    · rw [show enumF ⟨12, t, n, m, c⟩ = false by rw [enum_12, decide_eq_false (by omega)]]
      go_enter Tryz.func84, Tryz.ntmps84
      go_wp2_with fail
      go_quiet (fail)
      go_wp2_with fail
      go_ret
      first | exact ⟨rfl, (HK0.out.alloc _).drewN _⟩ | exact ⟨congrArg (fun b => Ending.returned (.bool b)) (decide_eq_false (by omega)), (HK0.out.alloc _).drewN _⟩
    by_cases z1 : n ≤ 9
    rotate_left
    · rw [show enumF ⟨12, t, n, m, c⟩ = false by rw [enum_12, decide_eq_false (by omega)]]
      go_enter Tryz.func84, Tryz.ntmps84
      go_wp2_with fail
      go_quiet (fail)
      go_wp2_with fail
      go_ret
      first | exact ⟨rfl, (HK0.out.alloc _).drewN _⟩ | exact ⟨congrArg (fun b => Ending.returned (.bool b)) (decide_eq_false (by omega)), (HK0.out.alloc _).drewN _⟩
    by_cases z2 : m = 0
    rotate_left
    · have y0 : (m == 0) = false := by simpa using z2
      rw [show enumF ⟨12, t, n, m, c⟩ = false by rw [enum_12, decide_eq_false (by omega)]]
      go_enter Tryz.func84, Tryz.ntmps84
      go_wp2_with fail
      go_quiet (fail)
      go_wp2_with fail
      go_ret
      first | exact ⟨rfl, (HK0.out.alloc _).drewN _⟩ | exact ⟨congrArg (fun b => Ending.returned (.bool b)) (decide_eq_false (by omega)), (HK0.out.alloc _).drewN _⟩
    by_cases z3 : 0 ≤ c
    rotate_left
    · rw [show enumF ⟨12, t, n, m, c⟩ = false by rw [enum_12, decide_eq_false (by omega)]]
      go_enter Tryz.func84, Tryz.ntmps84
      go_wp2_with fail
      go_quiet (fail)
      go_wp2_with fail
      go_ret
      first | exact ⟨rfl, (HK0.out.alloc _).drewN _⟩ | exact ⟨congrArg (fun b => Ending.returned (.bool b)) (decide_eq_false (by omega)), (HK0.out.alloc _).drewN _⟩
    by_cases z4 : c ≤ 3
    rotate_left
    · rw [show enumF ⟨12, t, n, m, c⟩ = false by rw [enum_12, decide_eq_false (by omega)]]
      go_enter Tryz.func84, Tryz.ntmps84
      go_wp2_with fail
      go_quiet (fail)
      go_wp2_with fail
      go_ret
      first | exact ⟨rfl, (HK0.out.alloc _).drewN _⟩ | exact ⟨congrArg (fun b => Ending.returned (.bool b)) (decide_eq_false (by omega)), (HK0.out.alloc _).drewN _⟩
    rw [show enumF ⟨12, t, n, m, c⟩ = true by rw [enum_12, decide_eq_true (by omega)]]
    go_enter Tryz.func84, Tryz.ntmps84
    go_wp2_with fail
    go_quiet (fail)
    go_wp2_with fail
    go_ret
    first | exact ⟨rfl, (HK0.out.alloc _).drewN _⟩ | exact ⟨congrArg (fun b => Ending.returned (.bool b)) (decide_eq_false (by omega)), (HK0.out.alloc _).drewN _⟩
  by_cases z0 : n = 0
  rotate_left
  · have y0 : (n == 0) = false := by simpa using z0
    rw [show enumF ⟨k, t, n, m, c⟩ = false by rw [enum_else ⟨k1, k2, k3, k4, k8, k9, k10, k12⟩, decide_eq_false (by omega)]]
    go_enter Tryz.func84, Tryz.ntmps84
    go_wp2_with fail
    go_quiet (fail)
    go_wp2_with fail
    go_ret
    first | exact ⟨rfl, (HK0.out.alloc _).drewN _⟩ | exact ⟨congrArg (fun b => Ending.returned (.bool b)) (decide_eq_false (by omega)), (HK0.out.alloc _).drewN _⟩
  by_cases z1 : m = 0
  rotate_left
  · have y0 : (m == 0) = false := by simpa using z1
    rw [show enumF ⟨k, t, n, m, c⟩ = false by rw [enum_else ⟨k1, k2, k3, k4, k8, k9, k10, k12⟩, decide_eq_false (by omega)]]
    go_enter Tryz.func84, Tryz.ntmps84
    go_wp2_with fail
    go_quiet (fail)
    go_wp2_with fail
    go_ret
    first | exact ⟨rfl, (HK0.out.alloc _).drewN _⟩ | exact ⟨congrArg (fun b => Ending.returned (.bool b)) (decide_eq_false (by omega)), (HK0.out.alloc _).drewN _⟩
  by_cases z2 : c = 0
  rotate_left
  · have y0 : (c == 0) = false := by simpa using z2
    rw [show enumF ⟨k, t, n, m, c⟩ = false by rw [enum_else ⟨k1, k2, k3, k4, k8, k9, k10, k12⟩, decide_eq_false (by omega)]]
    go_enter Tryz.func84, Tryz.ntmps84
    go_wp2_with fail
    go_quiet (fail)
    go_wp2_with fail
    go_ret
    first | exact ⟨rfl, (HK0.out.alloc _).drewN _⟩ | exact ⟨congrArg (fun b => Ending.returned (.bool b)) (decide_eq_false (by omega)), (HK0.out.alloc _).drewN _⟩
  rw [show enumF ⟨k, t, n, m, c⟩ = true by rw [enum_else ⟨k1, k2, k3, k4, k8, k9, k10, k12⟩, decide_eq_true (by omega)]]
  go_enter Tryz.func84, Tryz.ntmps84
  go_wp2_with fail
  go_quiet (fail)
  go_wp2_with fail
  go_ret
  first | exact ⟨rfl, (HK0.out.alloc _).drewN _⟩ | exact ⟨congrArg (fun b => Ending.returned (.bool b)) (decide_eq_false (by omega)), (HK0.out.alloc _).drewN _⟩
end Go.Proofs.YtclgoilfclmibaaGreatDoor
namespace Go.Proofs.YtclgoilfclmibaaGreatDoor
open Go Go.RowKit Go.Zn
attribute [local go_sem] Oper.semAt_some

theorem tg_of {s : List UInt8} {K : List Int} (h : ∀ t, t < 7 → hasF s (letF (t : Nat)) = K.contains (t : Int)) (h63 : hasF s 63 = false) (hK : ∀ x ∈ K, 0 ≤ x ∧ x ≤ 6) (t : Int) : hasF s (letF t) = K.contains t := by
  by_cases h0 : 0 ≤ t ∧ t ≤ 6
  · obtain ⟨n, rfl⟩ := Int.eq_ofNat_of_zero_le h0.1
    exact h n (by omega)
  · have e : letF t = 63 := by unfold letF; repeat rw [if_neg (by omega)]
    rw [e, h63]
    symm
    rw [Bool.eq_false_iff]
    intro hc
    have := hK t (by simpa using hc)
    omega
theorem evr_1 (t n m c : Int) : (hasF (tgtF 1) (letF t) && enumF ⟨1, t, n, m, c⟩) = evalid ⟨1, t, n, m, c⟩ := by
  rw [tg_of (s := tgtF 1) (K := [1, 2, 3, 4, 5]) (by decide) (by decide) (by decide) t, enum_1 1 (by omega)]
  show _ = countF [1, 2, 3, 4, 5] 99 ⟨1, t, n, m, c⟩
  unfold countF inB bareF
  generalize List.contains _ t = b
  rw [Bool.eq_iff_iff]
  cases b <;> simp <;> omega
theorem evr_2 (t n m c : Int) : (hasF (tgtF 2) (letF t) && enumF ⟨2, t, n, m, c⟩) = evalid ⟨2, t, n, m, c⟩ := by
  rw [tg_of (s := tgtF 2) (K := [0, 4]) (by decide) (by decide) (by decide) t, enum_2]
  show _ = countF [0, 4] 7 ⟨2, t, n, m, c⟩
  unfold countF inB bareF
  generalize List.contains _ t = b
  rw [Bool.eq_iff_iff]
  cases b <;> simp <;> omega
theorem evr_3 (t n m c : Int) : (hasF (tgtF 3) (letF t) && enumF ⟨3, t, n, m, c⟩) = evalid ⟨3, t, n, m, c⟩ := by
  rw [tg_of (s := tgtF 3) (K := [0, 4]) (by decide) (by decide) (by decide) t, enum_1 3 (by omega)]
  show _ = countF [0, 4] 99 ⟨3, t, n, m, c⟩
  unfold countF inB bareF
  generalize List.contains _ t = b
  rw [Bool.eq_iff_iff]
  cases b <;> simp <;> omega
theorem evr_4 (t n m c : Int) : (hasF (tgtF 4) (letF t) && enumF ⟨4, t, n, m, c⟩) = evalid ⟨4, t, n, m, c⟩ := by
  rw [tg_of (s := tgtF 4) (K := [0, 4]) (by decide) (by decide) (by decide) t, enum_1 4 (by omega)]
  show _ = countF [0, 4] 99 ⟨4, t, n, m, c⟩
  unfold countF inB bareF
  generalize List.contains _ t = b
  rw [Bool.eq_iff_iff]
  cases b <;> simp <;> omega
theorem evr_5 (t n m c : Int) : (hasF (tgtF 5) (letF t) && enumF ⟨5, t, n, m, c⟩) = evalid ⟨5, t, n, m, c⟩ := by
  rw [tg_of (s := tgtF 5) (K := [1, 2, 3]) (by decide) (by decide) (by decide) t, enum_else (by decide)]
  show _ = bareF [1, 2, 3] ⟨5, t, n, m, c⟩
  unfold bareF
  generalize List.contains _ t = b
  rw [Bool.eq_iff_iff]
  cases b <;> simp <;> omega
theorem evr_6 (t n m c : Int) : (hasF (tgtF 6) (letF t) && enumF ⟨6, t, n, m, c⟩) = evalid ⟨6, t, n, m, c⟩ := by
  rw [tg_of (s := tgtF 6) (K := [1, 2, 3]) (by decide) (by decide) (by decide) t, enum_else (by decide)]
  show _ = bareF [1, 2, 3] ⟨6, t, n, m, c⟩
  unfold bareF
  generalize List.contains _ t = b
  rw [Bool.eq_iff_iff]
  cases b <;> simp <;> omega
theorem evr_7 (t n m c : Int) : (hasF (tgtF 7) (letF t) && enumF ⟨7, t, n, m, c⟩) = evalid ⟨7, t, n, m, c⟩ := by
  rw [tg_of (s := tgtF 7) (K := [6]) (by decide) (by decide) (by decide) t, enum_else (by decide)]
  show _ = bareF [6] ⟨7, t, n, m, c⟩
  unfold bareF
  generalize List.contains _ t = b
  rw [Bool.eq_iff_iff]
  cases b <;> simp <;> omega
theorem evr_8 (t n m c : Int) : (hasF (tgtF 8) (letF t) && enumF ⟨8, t, n, m, c⟩) = evalid ⟨8, t, n, m, c⟩ := by
  rw [tg_of (s := tgtF 8) (K := [1, 2, 3, 0]) (by decide) (by decide) (by decide) t, enum_8]
  show _ = pairF [1, 2, 3, 0] 0 ⟨8, t, n, m, c⟩
  unfold pairF inB bareF
  generalize List.contains _ t = b
  rw [Bool.eq_iff_iff]
  cases b <;> simp <;> omega
theorem evr_9 (t n m c : Int) : (hasF (tgtF 9) (letF t) && enumF ⟨9, t, n, m, c⟩) = evalid ⟨9, t, n, m, c⟩ := by
  rw [tg_of (s := tgtF 9) (K := [1, 2, 3, 0]) (by decide) (by decide) (by decide) t, enum_9]
  show _ = countF [1, 2, 3, 0] 9 ⟨9, t, n, m, c⟩
  unfold countF inB bareF
  generalize List.contains _ t = b
  rw [Bool.eq_iff_iff]
  cases b <;> simp <;> omega
theorem evr_10 (t n m c : Int) : (hasF (tgtF 10) (letF t) && enumF ⟨10, t, n, m, c⟩) = evalid ⟨10, t, n, m, c⟩ := by
  rw [tg_of (s := tgtF 10) (K := [0]) (by decide) (by decide) (by decide) t, enum_10]
  show _ = pairF [0] 1 ⟨10, t, n, m, c⟩
  unfold pairF inB bareF
  generalize List.contains _ t = b
  rw [Bool.eq_iff_iff]
  cases b <;> simp <;> omega
theorem evr_11 (t n m c : Int) : (hasF (tgtF 11) (letF t) && enumF ⟨11, t, n, m, c⟩) = evalid ⟨11, t, n, m, c⟩ := by
  rw [tg_of (s := tgtF 11) (K := [1, 2, 3]) (by decide) (by decide) (by decide) t, enum_else (by decide)]
  show _ = bareF [1, 2, 3] ⟨11, t, n, m, c⟩
  unfold bareF
  generalize List.contains _ t = b
  rw [Bool.eq_iff_iff]
  cases b <;> simp <;> omega
theorem evr_12 (t n m c : Int) : (hasF (tgtF 12) (letF t) && enumF ⟨12, t, n, m, c⟩) = evalid ⟨12, t, n, m, c⟩ := by
  rw [tg_of (s := tgtF 12) (K := [0]) (by decide) (by decide) (by decide) t, enum_12]
  show _ = colF [0] 9 ⟨12, t, n, m, c⟩
  unfold colF countF inB bareF
  generalize List.contains _ t = b
  rw [Bool.eq_iff_iff]
  cases b <;> simp <;> omega
theorem evalid_ref (e : Eff) : (hasF (tgtF e.code) (letF e.target) && enumF e) = evalid e := by
  obtain ⟨k, t, n, m, c⟩ := e
  show (hasF (tgtF k) (letF t) && enumF ⟨k, t, n, m, c⟩) = evalid ⟨k, t, n, m, c⟩
  by_cases k1 : k = 1
  · subst k1; exact evr_1 t n m c
  by_cases k2 : k = 2
  · subst k2; exact evr_2 t n m c
  by_cases k3 : k = 3
  · subst k3; exact evr_3 t n m c
  by_cases k4 : k = 4
  · subst k4; exact evr_4 t n m c
  by_cases k5 : k = 5
  · subst k5; exact evr_5 t n m c
  by_cases k6 : k = 6
  · subst k6; exact evr_6 t n m c
  by_cases k7 : k = 7
  · subst k7; exact evr_7 t n m c
  by_cases k8 : k = 8
  · subst k8; exact evr_8 t n m c
  by_cases k9 : k = 9
  · subst k9; exact evr_9 t n m c
  by_cases k10 : k = 10
  · subst k10; exact evr_10 t n m c
  by_cases k11 : k = 11
  · subst k11; exact evr_11 t n m c
  by_cases k12 : k = 12
  · subst k12; exact evr_12 t n m c
  have e1 : tgtF k = [] := by unfold tgtF; repeat rw [if_neg (by omega)]
  have e2 : evalid ⟨k, t, n, m, c⟩ = false := by unfold evalid; simp [*]
  rw [e1, e2]; rfl
set_option maxRecDepth 100000 in
set_option maxHeartbeats 4000000 in
theorem revalid_any (k t n m c : Int) (w : World) : Calls Tryz.prog 69 #[.agg #[.int .i64 k, .int .i64 t, .int .i64 n, .int .i64 m, .int .i64 c]] w fun e w' => e = .returned (.bool (evalid ⟨k, t, n, m, c⟩)) ∧ Kept No w w' := by
  rw [← evalid_ref]
  show Calls _ _ _ _ fun e w' => e = .returned (.bool (hasF (tgtF k) (letF t) && enumF ⟨k, t, n, m, c⟩)) ∧ Kept No w w'
  have HT := Lib.hid (fun W => targets06_any k W)
  have HL := Lib.hid (fun W => letter_any t W)
  have HH := Lib.hid (fun W => has_any (s := tgtF k) (by unfold tgtF; repeat (first | (split; decide) | split | decide)) (letF t) W)
  have HN := Lib.hid (fun W => numbers_any k t n m c W)
  have HB := Lib.hid (show (w.alloc (.cells #[.int .i64 k, .int .i64 t, .int .i64 n, .int .i64 m, .int .i64 c] 50)).heap[w.heap.size]? = some (.cells #[.int .i64 k, .int .i64 t, .int .i64 n, .int .i64 m, .int .i64 c] 50 (0, 0)) from heap_alloc_new w _)
  have HK := Lib.hid ((Kept.refl No w).alloc (.cells #[.int .i64 k, .int .i64 t, .int .i64 n, .int .i64 m, .int .i64 c] 50))
  obtain ⟨hb, hhb⟩ : ∃ hb, hasF (tgtF k) (letF t) = hb := ⟨_, rfl⟩
  obtain ⟨nb, hnb⟩ : ∃ nb, enumF ⟨k, t, n, m, c⟩ = nb := ⟨_, rfl⟩
  obtain ⟨sv, hsv⟩ : ∃ sv, strOf (tgtF k) = sv := ⟨_, rfl⟩
  obtain ⟨lv, hlv⟩ : ∃ lv, ((letF t).toNat : Int) = lv := ⟨_, rfl⟩
  rw [hhb, hsv, hlv] at HH
  rw [hsv] at HT
  rw [hlv] at HL
  rw [hnb] at HN
  rw [hhb, hnb]
  clear hhb hnb hsv hlv
  cases hb
  · go_enter Tryz.func69, Tryz.ntmps69
    go_wp2_with fail
    refine wp_region_held_drew (S := (fun W' => Kept No w W' ∧ W'.heap[w.heap.size]? = some (.cells #[.int .i64 k, .int .i64 t, .int .i64 n, .int .i64 m, .int .i64 c] 50 (0, 0)))) (by kernel_rfl) ⟨HK.out.drew, HB.out⟩ (fun hHeld => ?_)
    refine wpAnyH_take (i := 0) (v := .pointer (some ⟨w.heap.size, 0, none⟩)) rfl (by kernel_rfl) (by kernel_rfl) (by kernel_rfl) (fun _ _ _ h => h) (Or.inl ⟨by rfl, ?_⟩) (by assumption) ?_
    · intro W2 hSw; have y0 := obj_cell hSw.2 0; have y1 := obj_cell hSw.2 1; go_simp
    simp only [Act.put, List.getElem_toArray, List.getElem_cons_zero, List.getElem_cons_succ, List.setIfInBounds_toArray, List.set_cons_zero, List.set_cons_succ]
    refine wpAnyH_take (i := 1) (v := .int .i64 k) rfl (by kernel_rfl) (by kernel_rfl) (by kernel_rfl) (fun _ _ _ h => h) (Or.inl ⟨by rfl, ?_⟩) (by assumption) ?_
    · intro W2 hSw; have y0 := obj_cell hSw.2 0; have y1 := obj_cell hSw.2 1; go_simp
    simp only [Act.put, List.getElem_toArray, List.getElem_cons_zero, List.getElem_cons_succ, List.setIfInBounds_toArray, List.set_cons_zero, List.set_cons_succ]
    refine wpAnyH_take (i := 3) (v := .pointer (some ⟨w.heap.size, 1, none⟩)) rfl (by kernel_rfl) (by kernel_rfl) (by kernel_rfl) (fun _ _ _ h => h) (Or.inl ⟨by rfl, ?_⟩) (by assumption) ?_
    · intro W2 hSw; have y0 := obj_cell hSw.2 0; have y1 := obj_cell hSw.2 1; go_simp
    simp only [Act.put, List.getElem_toArray, List.getElem_cons_zero, List.getElem_cons_succ, List.setIfInBounds_toArray, List.set_cons_zero, List.set_cons_succ]
    refine wpAnyH_take (i := 4) (v := .int .i64 t) rfl (by kernel_rfl) (by kernel_rfl) (by kernel_rfl) (fun _ _ _ h => h) (Or.inl ⟨by rfl, ?_⟩) (by assumption) ?_
    · intro W2 hSw; have y0 := obj_cell hSw.2 0; have y1 := obj_cell hSw.2 1; go_simp
    simp only [Act.put, List.getElem_toArray, List.getElem_cons_zero, List.getElem_cons_succ, List.setIfInBounds_toArray, List.set_cons_zero, List.set_cons_succ]
    refine wpAnyH_ready (rs := [2]) (by kernel_rfl) (by simp) ?_
    refine AllReadyH.cons rfl (fun K hK => ?_) AllReadyH.nil
    go_simp
    refine (HT.out _).mono ?_
    rintro e4 w4 ⟨rfl, hk4⟩
    have HKX := Lib.hid (HK.out.drew.and hk4)
    have HBX := Lib.hid (hk4.obj (show (w.alloc (.cells #[.int .i64 k, .int .i64 t, .int .i64 n, .int .i64 m, .int .i64 c] 50)).drew.heap[w.heap.size]? = _ from HB.out) (not_no _))
    clear hk4
    simp only []
    refine hK.out _ _ ⟨HKX.out, HBX.out⟩ (fun _ => ?_)
    clear hK K
    try simp only [Act.put, List.getElem_toArray, List.getElem_cons_zero, List.getElem_cons_succ, List.setIfInBounds_toArray, List.set_cons_zero, List.set_cons_succ]
    refine wpAnyH_ready (rs := [5]) (by kernel_rfl) (by simp) ?_
    refine AllReadyH.cons rfl (fun K hK => ?_) AllReadyH.nil
    go_simp
    refine (HL.out _).mono ?_
    rintro e3 w3 ⟨rfl, rfl⟩
    simp only []
    refine hK.out _ _ ⟨HKX.out, HBX.out⟩ (fun _ => ?_)
    clear hK K
    try simp only [Act.put, List.getElem_toArray, List.getElem_cons_zero, List.getElem_cons_succ, List.setIfInBounds_toArray, List.set_cons_zero, List.set_cons_succ]
    refine wpAnyH_ready (rs := [6]) (by kernel_rfl) (by simp) ?_
    refine AllReadyH.cons rfl (fun K hK => ?_) AllReadyH.nil
    go_simp
    refine (HH.out _).mono ?_
    rintro e5 w5 ⟨rfl, rfl⟩
    simp only []
    refine hK.out _ _ ⟨HKX.out, HBX.out⟩ (fun _ => ?_)
    clear hK K
    try simp only [Act.put, List.getElem_toArray, List.getElem_cons_zero, List.getElem_cons_succ, List.setIfInBounds_toArray, List.set_cons_zero, List.set_cons_succ]
    refine wpAnyH_ready (rs := [7]) (by kernel_rfl) (by simp) ?_
    refine AllReadyH.cons rfl (fun K hK => ?_) AllReadyH.nil
    go_simp
    refine hK.out _ _ ⟨HKX.out, HBX.out⟩ (fun _ => ?_)
    clear hK K
    try simp only [Act.put, List.getElem_toArray, List.getElem_cons_zero, List.getElem_cons_succ, List.setIfInBounds_toArray, List.set_cons_zero, List.set_cons_succ]
    refine wpAnyH_ready (rs := [8]) (by kernel_rfl) (by simp) ?_
    refine AllReadyH.cons rfl (fun K hK => ?_) AllReadyH.nil
    go_simp
    refine hK.out _ _ ⟨HKX.out, HBX.out⟩ (fun _ => ?_)
    clear hK K
    try simp only [Act.put, List.getElem_toArray, List.getElem_cons_zero, List.getElem_cons_succ, List.setIfInBounds_toArray, List.set_cons_zero, List.set_cons_succ]
    refine wpAnyH_ready (rs := [9]) (by kernel_rfl) (by simp) ?_
    refine AllReadyH.cons rfl (fun K hK => ?_) AllReadyH.nil
    go_simp
    refine hK.out _ _ ⟨HKX.out, HBX.out⟩ (fun _ => ?_)
    clear hK K
    try simp only [Act.put, List.getElem_toArray, List.getElem_cons_zero, List.getElem_cons_succ, List.setIfInBounds_toArray, List.set_cons_zero, List.set_cons_succ]
    refine wpAnyH_ready (rs := [10]) (by kernel_rfl) (by simp) ?_
    refine AllReadyH.cons rfl (fun K hK => ?_) AllReadyH.nil
    go_simp
    refine hK.out _ _ ⟨HKX.out, HBX.out⟩ (fun _ => ?_)
    clear hK K
    try simp only [Act.put, List.getElem_toArray, List.getElem_cons_zero, List.getElem_cons_succ, List.setIfInBounds_toArray, List.set_cons_zero, List.set_cons_succ]
    refine wpAnyH_ready (rs := [11]) (by kernel_rfl) (by simp) ?_
    refine AllReadyH.cons rfl (fun K hK => ?_) AllReadyH.nil
    go_simp
    refine hK.out _ _ ⟨HKX.out, HBX.out⟩ (fun _ => ?_)
    clear hK K
    try simp only [Act.put, List.getElem_toArray, List.getElem_cons_zero, List.getElem_cons_succ, List.setIfInBounds_toArray, List.set_cons_zero, List.set_cons_succ]
    refine wpAnyH_done (by kernel_rfl) ?_ _
    go_wp2_with fail
    go_ret
    exact ⟨rfl, HKX.out⟩
  · go_enter Tryz.func69, Tryz.ntmps69
    go_wp2_with fail
    refine wp_region_held_drew (S := (fun W' => Kept No w W' ∧ W'.heap[w.heap.size]? = some (.cells #[.int .i64 k, .int .i64 t, .int .i64 n, .int .i64 m, .int .i64 c] 50 (0, 0)))) (by kernel_rfl) ⟨HK.out.drew, HB.out⟩ (fun hHeld => ?_)
    refine wpAnyH_take (i := 0) (v := .pointer (some ⟨w.heap.size, 0, none⟩)) rfl (by kernel_rfl) (by kernel_rfl) (by kernel_rfl) (fun _ _ _ h => h) (Or.inl ⟨by rfl, ?_⟩) (by assumption) ?_
    · intro W2 hSw; have y0 := obj_cell hSw.2 0; have y1 := obj_cell hSw.2 1; go_simp
    simp only [Act.put, List.getElem_toArray, List.getElem_cons_zero, List.getElem_cons_succ, List.setIfInBounds_toArray, List.set_cons_zero, List.set_cons_succ]
    refine wpAnyH_take (i := 1) (v := .int .i64 k) rfl (by kernel_rfl) (by kernel_rfl) (by kernel_rfl) (fun _ _ _ h => h) (Or.inl ⟨by rfl, ?_⟩) (by assumption) ?_
    · intro W2 hSw; have y0 := obj_cell hSw.2 0; have y1 := obj_cell hSw.2 1; go_simp
    simp only [Act.put, List.getElem_toArray, List.getElem_cons_zero, List.getElem_cons_succ, List.setIfInBounds_toArray, List.set_cons_zero, List.set_cons_succ]
    refine wpAnyH_take (i := 3) (v := .pointer (some ⟨w.heap.size, 1, none⟩)) rfl (by kernel_rfl) (by kernel_rfl) (by kernel_rfl) (fun _ _ _ h => h) (Or.inl ⟨by rfl, ?_⟩) (by assumption) ?_
    · intro W2 hSw; have y0 := obj_cell hSw.2 0; have y1 := obj_cell hSw.2 1; go_simp
    simp only [Act.put, List.getElem_toArray, List.getElem_cons_zero, List.getElem_cons_succ, List.setIfInBounds_toArray, List.set_cons_zero, List.set_cons_succ]
    refine wpAnyH_take (i := 4) (v := .int .i64 t) rfl (by kernel_rfl) (by kernel_rfl) (by kernel_rfl) (fun _ _ _ h => h) (Or.inl ⟨by rfl, ?_⟩) (by assumption) ?_
    · intro W2 hSw; have y0 := obj_cell hSw.2 0; have y1 := obj_cell hSw.2 1; go_simp
    simp only [Act.put, List.getElem_toArray, List.getElem_cons_zero, List.getElem_cons_succ, List.setIfInBounds_toArray, List.set_cons_zero, List.set_cons_succ]
    refine wpAnyH_ready (rs := [2]) (by kernel_rfl) (by simp) ?_
    refine AllReadyH.cons rfl (fun K hK => ?_) AllReadyH.nil
    go_simp
    refine (HT.out _).mono ?_
    rintro e4 w4 ⟨rfl, hk4⟩
    have HKX := Lib.hid (HK.out.drew.and hk4)
    have HBX := Lib.hid (hk4.obj (show (w.alloc (.cells #[.int .i64 k, .int .i64 t, .int .i64 n, .int .i64 m, .int .i64 c] 50)).drew.heap[w.heap.size]? = _ from HB.out) (not_no _))
    clear hk4
    simp only []
    refine hK.out _ _ ⟨HKX.out, HBX.out⟩ (fun _ => ?_)
    clear hK K
    try simp only [Act.put, List.getElem_toArray, List.getElem_cons_zero, List.getElem_cons_succ, List.setIfInBounds_toArray, List.set_cons_zero, List.set_cons_succ]
    refine wpAnyH_ready (rs := [5]) (by kernel_rfl) (by simp) ?_
    refine AllReadyH.cons rfl (fun K hK => ?_) AllReadyH.nil
    go_simp
    refine (HL.out _).mono ?_
    rintro e3 w3 ⟨rfl, rfl⟩
    simp only []
    refine hK.out _ _ ⟨HKX.out, HBX.out⟩ (fun _ => ?_)
    clear hK K
    try simp only [Act.put, List.getElem_toArray, List.getElem_cons_zero, List.getElem_cons_succ, List.setIfInBounds_toArray, List.set_cons_zero, List.set_cons_succ]
    refine wpAnyH_ready (rs := [6]) (by kernel_rfl) (by simp) ?_
    refine AllReadyH.cons rfl (fun K hK => ?_) AllReadyH.nil
    go_simp
    refine (HH.out _).mono ?_
    rintro e5 w5 ⟨rfl, rfl⟩
    simp only []
    refine hK.out _ _ ⟨HKX.out, HBX.out⟩ (fun _ => ?_)
    clear hK K
    try simp only [Act.put, List.getElem_toArray, List.getElem_cons_zero, List.getElem_cons_succ, List.setIfInBounds_toArray, List.set_cons_zero, List.set_cons_succ]
    refine wpAnyH_ready (rs := [7]) (by kernel_rfl) (by simp) ?_
    refine AllReadyH.cons rfl (fun K hK => ?_) AllReadyH.nil
    go_simp
    refine hK.out _ _ ⟨HKX.out, HBX.out⟩ (fun _ => ?_)
    clear hK K
    try simp only [Act.put, List.getElem_toArray, List.getElem_cons_zero, List.getElem_cons_succ, List.setIfInBounds_toArray, List.set_cons_zero, List.set_cons_succ]
    refine wpAnyH_ready (rs := [8]) (by kernel_rfl) (by simp) ?_
    refine AllReadyH.cons rfl (fun K hK => ?_) AllReadyH.nil
    have y0 := obj_cell HBX.out 0
    have y1 := obj_cell HBX.out 1
    have y2 := obj_cell HBX.out 2
    have y3 := obj_cell HBX.out 3
    have y4 := obj_cell HBX.out 4
    go_simp
    refine hK.out _ _ ⟨HKX.out, HBX.out⟩ (fun _ => ?_)
    clear hK K
    try simp only [Act.put, List.getElem_toArray, List.getElem_cons_zero, List.getElem_cons_succ, List.setIfInBounds_toArray, List.set_cons_zero, List.set_cons_succ]
    clear y0 y1 y2 y3 y4
    refine wpAnyH_ready (rs := [9]) (by kernel_rfl) (by simp) ?_
    refine AllReadyH.cons rfl (fun K hK => ?_) AllReadyH.nil
    go_simp
    refine (HN.out _).mono ?_
    rintro e6 w6 ⟨rfl, hk6⟩
    have HKY := Lib.hid (HKX.out.and hk6)
    have HBY := Lib.hid (hk6.obj HBX.out (not_no _))
    clear hk6
    simp only []
    refine hK.out _ _ ⟨HKY.out, HBY.out⟩ (fun _ => ?_)
    clear hK K
    try simp only [Act.put, List.getElem_toArray, List.getElem_cons_zero, List.getElem_cons_succ, List.setIfInBounds_toArray, List.set_cons_zero, List.set_cons_succ]
    refine wpAnyH_ready (rs := [10]) (by kernel_rfl) (by simp) ?_
    refine AllReadyH.cons rfl (fun K hK => ?_) AllReadyH.nil
    go_simp
    refine hK.out _ _ ⟨HKY.out, HBY.out⟩ (fun _ => ?_)
    clear hK K
    try simp only [Act.put, List.getElem_toArray, List.getElem_cons_zero, List.getElem_cons_succ, List.setIfInBounds_toArray, List.set_cons_zero, List.set_cons_succ]
    refine wpAnyH_ready (rs := [11]) (by kernel_rfl) (by simp) ?_
    refine AllReadyH.cons rfl (fun K hK => ?_) AllReadyH.nil
    go_simp
    refine hK.out _ _ ⟨HKY.out, HBY.out⟩ (fun _ => ?_)
    clear hK K
    try simp only [Act.put, List.getElem_toArray, List.getElem_cons_zero, List.getElem_cons_succ, List.setIfInBounds_toArray, List.set_cons_zero, List.set_cons_succ]
    refine wpAnyH_done (by kernel_rfl) ?_ _
    go_wp2_with fail
    go_ret
    exact ⟨rfl, HKY.out⟩
end Go.Proofs.YtclgoilfclmibaaGreatDoor
