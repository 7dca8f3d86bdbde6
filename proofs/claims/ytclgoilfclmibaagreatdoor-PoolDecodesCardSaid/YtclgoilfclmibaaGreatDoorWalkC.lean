/-
  Pool: the rule of a code (printed by tools/pool_c.py).
-/
import Derived.Test.YtclgoilfclmibaaGreatDoorWalkB
set_option linter.unusedVariables false
set_option linter.unusedSimpArgs false
namespace Go.Proofs.YtclgoilfclmibaaGreatDoor
open Go.RowKit Go.Zn
attribute [local go_sem] Oper.semAt_some

theorem clip_any (ad : Addr) (n cap : Nat) (hn : n ≤ cap) (w : World) : Calls Tryz.prog 100 #[.slice (some ad) n cap] w fun x w' => x = .returned (.slice (some ad) n n) ∧ w' = w := by
  go_enter Tryz.func100, Tryz.ntmps100
  go_wp2_with fail
  go_ret
  exact ⟨rfl, rfl⟩
theorem rd_obj {w : World} {b : Nat} {cs : Array Value} {t : TypeId} {fz : Nat × Nat} (h : w.heap[b]? = some (.cells cs t fz)) {size n cap : Nat} {xs : List Value} (hl : xs.length = n * size) (hm : n ≤ maxLen) (hc : n ≤ cap) (hx : ∀ (j : Nat) (u : Value), xs[j]? = some u → cs[j]? = some u) : Rd w (fun i => i = b) size (.slice (some ⟨b, 0, none⟩) n cap) n xs :=
  ⟨hl, hm, .inr ⟨b, 0, cap, rfl, hc, fun _ => rfl, fun j u hj => by rw [Nat.zero_add, obj_cell h]; exact hx j u hj⟩⟩
theorem pre_app {xs ys : List Value} {r : Array Value} (j : Nat) (u : Value) (h : (xs ++ ys)[j]? = some u) : (xs.toArray ++ (ys.toArray ++ r))[j]? = some u := by
  have : (xs.toArray ++ (ys.toArray ++ r)) = ((xs ++ ys) ++ r.toList).toArray := by
    apply Array.ext'
    simp
  rw [this, List.getElem?_toArray, List.getElem?_append_left (List.getElem?_eq_some_iff.1 h).1]
  exact h

theorem pre_app1 {xs : List Value} {r : Array Value} (j : Nat) (u : Value) (h : xs[j]? = some u) : (xs.toArray ++ r)[j]? = some u := by
  have : (xs.toArray ++ r) = (xs ++ r.toList).toArray := by
    apply Array.ext'
    simp
  rw [this, List.getElem?_toArray, List.getElem?_append_left (List.getElem?_eq_some_iff.1 h).1]
  exact h
/-- what the rule of a code is -/
inductive RuleAt (w : World) (c : Int) (r : Value) : Prop where
  | none : r = .nilIface → (∀ e : Eff, e.code = c → evalid e = false) → RuleAt w c r
  | bare (K : List Int) (v : Value) (g : Nat) : K.length ≤ 100 → Rd w (fun i => i = g) 1 v K.length (ivals K) → r = .iface 153 v → (∀ e : Eff, e.code = c → evalid e = bareF K e) → RuleAt w c r
  | counted (K : List Int) (v : Value) (g : Nat) (most : Int) : K.length ≤ 100 → Rd w (fun i => i = g) 1 v K.length (ivals K) → 1 ≤ most → r = .iface 156 (.agg #[v, .int .i64 most]) → (∀ e : Eff, e.code = c → evalid e = countF K most e) → RuleAt w c r
  | paired (K : List Int) (v : Value) (g : Nat) (least : Int) : K.length ≤ 100 → Rd w (fun i => i = g) 1 v K.length (ivals K) → 0 ≤ least → least ≤ 9 → r = .iface 158 (.agg #[v, .int .i64 least]) → (∀ e : Eff, e.code = c → evalid e = pairF K least e) → RuleAt w c r
  | coloured (K : List Int) (v : Value) (g : Nat) (most : Int) : K.length ≤ 100 → Rd w (fun i => i = g) 1 v K.length (ivals K) → 1 ≤ most → r = .iface 160 (.agg #[v, .int .i64 most]) → (∀ e : Eff, e.code = c → evalid e = colF K most e) → RuleAt w c r
def OfP (c : Int) (w : World) (x : Ending) (w' : World) : Prop := ∃ r, x = .returned r ∧ RuleAt w' c r ∧ Kept No w w'
set_option maxHeartbeats 2000000 in
theorem of_1 (w : World) : Calls Tryz.prog 92 #[.int .i64 1] w (OfP 1 w) := by
  have HK0 := Lib.hid (Kept.refl No w)
  go_enter Tryz.func92, Tryz.ntmps92
  go_wp2_with fail
  refine (clip_any _ _ _ (by omega) _).mono ?_
  rintro e w1 ⟨rfl, rfl⟩
  go_wp2_with fail
  go_ret
  refine ⟨_, rfl, ?_, (((((HK0.out.alloc _).alloc _).alloc _).alloc _).alloc _).drew⟩
  exact .counted [1, 2, 3, 4, 5] _ _ 99 (by decide) (rd_obj (World.alloc_at (by simp) _) rfl (by decide) (Nat.le_add_right _ _) (fun j u hj => pre_app (xs := [.int .i64 1, .int .i64 2, .int .i64 3]) j u hj)) (by decide) rfl (fun e h => by unfold evalid; rw [h]; rfl)
theorem of_2 (w : World) : Calls Tryz.prog 92 #[.int .i64 2] w (OfP 2 w) := by
  have HK0 := Lib.hid (Kept.refl No w)
  go_enter Tryz.func92, Tryz.ntmps92
  go_wp2_with fail
  go_ret
  refine ⟨_, rfl, ?_, ((HK0.out.alloc _).alloc _).alloc _⟩
  exact .counted [0, 4] _ _ 7 (by decide) (rd_obj (obj_alloc (World.alloc_at (by simp) _) _) rfl (by decide) (Nat.le_refl _) (fun j u hj => List.getElem?_toArray.trans hj)) (by decide) rfl (fun e h => by unfold evalid; rw [h]; rfl)
theorem of_3 (w : World) : Calls Tryz.prog 92 #[.int .i64 3] w (OfP 3 w) := by
  have HK0 := Lib.hid (Kept.refl No w)
  go_enter Tryz.func92, Tryz.ntmps92
  go_wp2_with fail
  go_ret
  refine ⟨_, rfl, ?_, ((HK0.out.alloc _).alloc _).alloc _⟩
  exact .counted [0, 4] _ _ 99 (by decide) (rd_obj (obj_alloc (World.alloc_at (by simp) _) _) rfl (by decide) (Nat.le_refl _) (fun j u hj => List.getElem?_toArray.trans hj)) (by decide) rfl (fun e h => by unfold evalid; rw [h]; rfl)
theorem of_4 (w : World) : Calls Tryz.prog 92 #[.int .i64 4] w (OfP 4 w) := by
  have HK0 := Lib.hid (Kept.refl No w)
  go_enter Tryz.func92, Tryz.ntmps92
  go_wp2_with fail
  go_ret
  refine ⟨_, rfl, ?_, ((HK0.out.alloc _).alloc _).alloc _⟩
  exact .counted [0, 4] _ _ 99 (by decide) (rd_obj (obj_alloc (World.alloc_at (by simp) _) _) rfl (by decide) (Nat.le_refl _) (fun j u hj => List.getElem?_toArray.trans hj)) (by decide) rfl (fun e h => by unfold evalid; rw [h]; rfl)
theorem of_5 (w : World) : Calls Tryz.prog 92 #[.int .i64 5] w (OfP 5 w) := by
  have HK0 := Lib.hid (Kept.refl No w)
  go_enter Tryz.func92, Tryz.ntmps92
  go_wp2_with fail
  go_ret
  refine ⟨_, rfl, ?_, ((HK0.out.alloc _).alloc _).alloc _⟩
  exact .bare [1, 2, 3] _ _ (by decide) (rd_obj (World.alloc_at (by simp) _) rfl (by decide) (Nat.le_refl _) (fun j u hj => List.getElem?_toArray.trans hj)) rfl (fun e h => by unfold evalid; rw [h]; rfl)
theorem of_6 (w : World) : Calls Tryz.prog 92 #[.int .i64 6] w (OfP 6 w) := by
  have HK0 := Lib.hid (Kept.refl No w)
  go_enter Tryz.func92, Tryz.ntmps92
  go_wp2_with fail
  go_ret
  refine ⟨_, rfl, ?_, ((HK0.out.alloc _).alloc _).alloc _⟩
  exact .bare [1, 2, 3] _ _ (by decide) (rd_obj (World.alloc_at (by simp) _) rfl (by decide) (Nat.le_refl _) (fun j u hj => List.getElem?_toArray.trans hj)) rfl (fun e h => by unfold evalid; rw [h]; rfl)
theorem of_7 (w : World) : Calls Tryz.prog 92 #[.int .i64 7] w (OfP 7 w) := by
  have HK0 := Lib.hid (Kept.refl No w)
  go_enter Tryz.func92, Tryz.ntmps92
  go_wp2_with fail
  go_ret
  refine ⟨_, rfl, ?_, (((HK0.out.alloc _).alloc _).alloc _).alloc _⟩
  exact .bare [6] _ _ (by decide) (rd_obj (World.alloc_at (by simp) _) rfl (by decide) (Nat.le_refl _) (fun j u hj => List.getElem?_toArray.trans hj)) rfl (fun e h => by unfold evalid; rw [h]; rfl)
set_option maxHeartbeats 2000000 in
theorem of_8 (w : World) : Calls Tryz.prog 92 #[.int .i64 8] w (OfP 8 w) := by
  have HK0 := Lib.hid (Kept.refl No w)
  go_enter Tryz.func92, Tryz.ntmps92
  go_wp2_with fail
  refine (clip_any _ _ _ (by omega) _).mono ?_
  rintro e w1 ⟨rfl, rfl⟩
  go_wp2_with fail
  go_ret
  refine ⟨_, rfl, ?_, (((((HK0.out.alloc _).alloc _).alloc _).alloc _).alloc _).drew⟩
  exact .paired [1, 2, 3, 0] _ _ 0 (by decide) (rd_obj (World.alloc_at (by simp) _) rfl (by decide) (Nat.le_add_right _ _) (fun j u hj => pre_app1 j u hj)) (by decide) (by decide) rfl (fun e h => by unfold evalid; rw [h]; rfl)
set_option maxHeartbeats 2000000 in
theorem of_9 (w : World) : Calls Tryz.prog 92 #[.int .i64 9] w (OfP 9 w) := by
  have HK0 := Lib.hid (Kept.refl No w)
  go_enter Tryz.func92, Tryz.ntmps92
  go_wp2_with fail
  refine (clip_any _ _ _ (by omega) _).mono ?_
  rintro e w1 ⟨rfl, rfl⟩
  go_wp2_with fail
  go_ret
  refine ⟨_, rfl, ?_, (((((HK0.out.alloc _).alloc _).alloc _).alloc _).alloc _).drew⟩
  exact .counted [1, 2, 3, 0] _ _ 9 (by decide) (rd_obj (World.alloc_at (by simp) _) rfl (by decide) (Nat.le_add_right _ _) (fun j u hj => pre_app1 j u hj)) (by decide) rfl (fun e h => by unfold evalid; rw [h]; rfl)
theorem of_10 (w : World) : Calls Tryz.prog 92 #[.int .i64 10] w (OfP 10 w) := by
  have HK0 := Lib.hid (Kept.refl No w)
  go_enter Tryz.func92, Tryz.ntmps92
  go_wp2_with fail
  go_ret
  refine ⟨_, rfl, ?_, ((HK0.out.alloc _).alloc _).alloc _⟩
  exact .paired [0] _ _ 1 (by decide) (rd_obj (obj_alloc (obj_alloc (World.alloc_at (by simp) _) _) _) rfl (by decide) (Nat.le_refl _) (fun j u hj => List.getElem?_toArray.trans hj)) (by decide) (by decide) rfl (fun e h => by unfold evalid; rw [h]; rfl)
theorem of_11 (w : World) : Calls Tryz.prog 92 #[.int .i64 11] w (OfP 11 w) := by
  have HK0 := Lib.hid (Kept.refl No w)
  go_enter Tryz.func92, Tryz.ntmps92
  go_wp2_with fail
  go_ret
  refine ⟨_, rfl, ?_, ((HK0.out.alloc _).alloc _).alloc _⟩
  exact .bare [1, 2, 3] _ _ (by decide) (rd_obj (World.alloc_at (by simp) _) rfl (by decide) (Nat.le_refl _) (fun j u hj => List.getElem?_toArray.trans hj)) rfl (fun e h => by unfold evalid; rw [h]; rfl)
theorem of_12 (w : World) : Calls Tryz.prog 92 #[.int .i64 12] w (OfP 12 w) := by
  have HK0 := Lib.hid (Kept.refl No w)
  go_enter Tryz.func92, Tryz.ntmps92
  go_wp2_with fail
  go_ret
  refine ⟨_, rfl, ?_, ((HK0.out.alloc _).alloc _).alloc _⟩
  exact .coloured [0] _ _ 9 (by decide) (rd_obj (obj_alloc (obj_alloc (World.alloc_at (by simp) _) _) _) rfl (by decide) (Nat.le_refl _) (fun j u hj => List.getElem?_toArray.trans hj)) (by decide) rfl (fun e h => by unfold evalid; rw [h]; rfl)
theorem of_no (c : Int) (hc : ¬ (1 ≤ c ∧ c ≤ 12)) (w : World) : Calls Tryz.prog 92 #[.int .i64 c] w (OfP c w) := by
  have HK0 := Lib.hid (Kept.refl No w)
  have t1 : (c == 1) = false := by simp; omega
  have t2 : (c == 2) = false := by simp; omega
  have t3 : (c == 3) = false := by simp; omega
  have t4 : (c == 4) = false := by simp; omega
  have t5 : (c == 5) = false := by simp; omega
  have t6 : (c == 6) = false := by simp; omega
  have t7 : (c == 7) = false := by simp; omega
  have t8 : (c == 8) = false := by simp; omega
  have t9 : (c == 9) = false := by simp; omega
  have t10 : (c == 10) = false := by simp; omega
  have t11 : (c == 11) = false := by simp; omega
  have t12 : (c == 12) = false := by simp; omega
  have HR := Lib.hid (show ∀ e : Eff, e.code = c → evalid e = false by
    intro e h
    unfold evalid
    rw [h]
    simp only [beq_eq_false_iff_ne] at t1 t2 t3 t4 t5 t6 t7 t8 t9 t10 t11 t12
    simp [t1, t2, t3, t4, t5, t6, t7, t8, t9, t10, t11, t12])
  clear hc
  go_enter Tryz.func92, Tryz.ntmps92
  go_wp2_with fail
  go_ret
  exact ⟨_, rfl, .none rfl HR.out, ((HK0.out.alloc _).alloc _).alloc _⟩
theorem of_any (c : Int) (w : World) : Calls Tryz.prog 92 #[.int .i64 c] w (OfP c w) := by
  by_cases h : 1 ≤ c ∧ c ≤ 12
  · obtain rfl | rfl | rfl | rfl | rfl | rfl | rfl | rfl | rfl | rfl | rfl | rfl : c = 1 ∨ c = 2 ∨ c = 3 ∨ c = 4 ∨ c = 5 ∨ c = 6 ∨ c = 7 ∨ c = 8 ∨ c = 9 ∨ c = 10 ∨ c = 11 ∨ c = 12 := by omega
    · exact of_1 w
    · exact of_2 w
    · exact of_3 w
    · exact of_4 w
    · exact of_5 w
    · exact of_6 w
    · exact of_7 w
    · exact of_8 w
    · exact of_9 w
    · exact of_10 w
    · exact of_11 w
    · exact of_12 w
  · exact of_no c h w
end Go.Proofs.YtclgoilfclmibaaGreatDoor
