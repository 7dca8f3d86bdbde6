/-
  Bracket: the order of seeds; how a bracket lies.
-/
import Derived.Test.YtphlpclhmodekaaDoorLib
import Derived.Test.YtphlpclhmodekaaDoorRows
import Derived.Test.YtphlpclhmodekaaDoorLt
set_option linter.unusedVariables false
set_option linter.unusedSimpArgs false
namespace Go.Proofs.YtphlpclhmodekaaDoor
open Go.RowKit Go.Zn
attribute [local go_sem] Oper.semAt_some

/-- the cells of a bracket -/
def cellsB (E S : Nat) (f : Nat → Nat) : List Value := .int .i64 (E : Nat) :: .int .i64 (S : Nat) :: (List.range 63).map fun i => Value.int .i8 (f i : Nat)
theorem cellsB_len (E S : Nat) (f : Nat → Nat) : (cellsB E S f).length = 65 := by simp [cellsB]
theorem cellsB_won (E S : Nat) (f : Nat → Nat) {m : Nat} (h : m < 63) : (cellsB E S f)[2 + m]? = some (.int .i8 (f m : Nat)) := by
  rw [show 2 + m = m + 1 + 1 by omega]
  simp [cellsB, h]
theorem cellsB_set (E S : Nat) (f : Nat → Nat) {m : Nat} (h : m < 63) (v : Nat) : (cellsB E S f).set (2 + m) (.int .i8 (v : Nat)) = cellsB E S (upd f m v) := by
  rw [show 2 + m = m + 1 + 1 by omega]
  unfold cellsB
  rw [List.set_cons_succ, List.set_cons_succ]
  congr 2
  apply List.ext_getElem?
  intro i
  rw [List.getElem?_set]
  simp only [List.length_map, List.length_range, List.getElem?_map]
  by_cases e : m = i
  · subst e
    simp [h, upd_same]
  · rw [if_neg e]
    by_cases hi : i < 63
    · simp [hi, upd_ne f v (show i ≠ m from fun x => e x.symm)]
    · simp [hi]
theorem cellsB_one (E S : Nat) (f : Nat → Nat) : ∀ v ∈ cellsB E S f, v.oneCell' = true := by
  intro v hv
  simp only [cellsB, List.mem_cons, List.mem_map] at hv
  rcases hv with rfl | rfl | ⟨_, _, rfl⟩ <;> rfl

/-- a bracket lies in block b -/
structure BS (k E : Nat) (f : Nat → Nat) (b : Nat) (w : World) : Prop where
  z : Sz k E
  wf : WF k E f
  hb : w.heap[b]? = some (.cells (cellsB E (2 ^ k) f).toArray 46 (0, 0))
theorem BS.to {k E : Nat} {f : Nat → Nat} {b : Nat} {S : Nat → Prop} {w w' : World} (h : BS k E f b w) (hk : Kept S w w') (hn : ¬ S b) : BS k E f b w' := ⟨h.z, h.wf, hk.obj h.hb hn⟩
theorem BS.lt {k E : Nat} {f : Nat → Nat} {b : Nat} {w : World} (h : BS k E f b w) : b < w.heap.size := obj_lt h.hb
theorem BS.ent {k E : Nat} {f : Nat → Nat} {b : Nat} {w : World} (h : BS k E f b w) : w.cell? ⟨b, 0, none⟩ = some (.int .i64 (E : Nat)) := by rw [obj_cell h.hb 0]; rfl
theorem BS.size {k E : Nat} {f : Nat → Nat} {b : Nat} {w : World} (h : BS k E f b w) : w.cell? ⟨b, 1, none⟩ = some (.int .i64 ((2 ^ k : Nat) : Int)) := by rw [obj_cell h.hb 1]; rfl
theorem Sz.le {k E : Nat} (h : Sz k E) : 2 ^ k ≤ 64 := pow_le' h.six
theorem BS.won {k E : Nat} {f : Nat → Nat} {b : Nat} {w : World} (h : BS k E f b w) {m : Nat} (hm : m + 1 < 2 ^ k) : w.cell? ⟨b, 2 + m, none⟩ = some (.int .i8 (f m : Nat)) := by
  have := h.z.le
  rw [obj_cell h.hb (2 + m), List.getElem?_toArray, cellsB_won _ _ _ (by omega)]
theorem BS.free {k E : Nat} {f : Nat → Nat} {b : Nat} {w : World} (h : BS k E f b w) (j : Nat) : w.frozen? ⟨b, j, none⟩ = false := obj_free h.hb j
theorem BS.put {k E : Nat} {f : Nat → Nat} {b : Nat} {w : World} (h : BS k E f b w) {m v : Nat} (hm : m + 1 < 2 ^ k) (hw : WF k E (upd f m v)) : BS k E (upd f m v) b (w.setCell ⟨b, 2 + m, none⟩ (.int .i8 (v : Nat))) := by
  have := h.z.le
  refine ⟨h.z, hw, ?_⟩
  rw [obj_store h.hb (2 + m) _, List.setIfInBounds_toArray, cellsB_set _ _ _ (by omega)]
theorem BS.drew {k E : Nat} {f : Nat → Nat} {b : Nat} {w : World} (h : BS k E f b w) : BS k E f b w.drew := h.to ((Kept.refl No w).drew) (not_no _)
theorem BS.drewN {k E : Nat} {f : Nat → Nat} {b : Nat} {w : World} (h : BS k E f b w) (n : Nat) : BS k E f b (w.drewN n) := h.to ((Kept.refl No w).drewN n) (not_no _)

theorem seed_any : ∀ (k p : Nat) (w : World), k ≤ 6 → p < 2 ^ k → Calls Tryd.prog 58 #[.int .i64 ((2 ^ k : Nat) : Int), .int .i64 (p : Nat)] w fun e w' => e = .returned (.int .i64 (seedK k p : Nat)) ∧ w' = w
  | 0, p, w, _, hp => by
    go_enter Tryd.func58, Tryd.ntmps58
    go_wp2_with fail
    go_ret
    exact ⟨rfl, rfl⟩
  | k + 1, p, w, hk, hp => by
    obtain ⟨H, hH⟩ : ∃ H, 2 ^ k = H := ⟨_, rfl⟩
    have hS : 2 ^ (k + 1) = 2 * H := by omega
    have hH1 : 1 ≤ H := by rw [← hH]; exact Nat.one_le_two_pow
    have hH2 : H ≤ 32 := by rw [← hH]; exact pow_le' (show k ≤ 5 by omega)
    have hc := fun w => seed_any k (p / 2) w (by omega) (by omega)
    obtain ⟨x, hx⟩ : ∃ x, seedK k (p / 2) = x := ⟨_, rfl⟩
    have hxl : x < H := by rw [← hx, ← hH]; exact seedK_lt k _
    have hres : seedK (k + 1) p = if p % 2 = 1 then 2 * H - 1 - x else x := by rw [seedK, hS, hx]
    have hpl : p < 2 * H := by omega
    obtain ⟨R, hR⟩ : ∃ R, seedK (k + 1) p = R := ⟨_, rfl⟩
    rw [hR] at hres
    rw [hR, hS]
    rw [hx, hH] at hc
    have HC := Lib.hid hc
    clear hc hR hx hS hH
    have q1 : wrap64 ((p : Int) / 2) = (p : Int) / 2 := IntWalk.wrap64_in _ (by omega)
    have q2 : IntKind.i64.wrap (2 * (H : Int) - 1) = 2 * (H : Int) - 1 := IntWalk.i64_in _ (by omega)
    have q3 : IntKind.i64.wrap (2 * (H : Int) - 1 - x) = 2 * (H : Int) - 1 - x := IntWalk.i64_in _ (by omega)
    have HP := Lib.hid (And.intro hp hxl)
    clear hp hxl hk hpl
    by_cases hodd : p % 2 = 1
    · have q4 : ((p : Int) % 2 == 1) = true := by simp; omega
      have HR := Lib.hid (show 2 * (H : Int) - 1 - x = (R : Nat) by rw [if_pos hodd] at hres; have := HP.out.2; omega)
      clear hodd hres
      go_enter Tryd.func58, Tryd.ntmps58
      go_wp2_with fail
      refine (HC.out _).mono ?_
      rintro e w1 ⟨rfl, hk⟩
      have hk := hk.symm
      subst hk
      have hk := Kept.refl No w
      have HK := Lib.hid hk
      clear hk
      go_wp2_with fail
      go_ret
      exact ⟨by rw [← HR.out]; rfl, rfl⟩
    · have q4 : ((p : Int) % 2 == 1) = false := by simp; omega
      have HR := Lib.hid (show x = R by rw [if_neg hodd] at hres; exact hres.symm)
      clear hodd hres
      go_enter Tryd.func58, Tryd.ntmps58
      go_wp2_with fail
      refine (HC.out _).mono ?_
      rintro e w1 ⟨rfl, hk⟩
      have hk := hk.symm
      subst hk
      have hk := Kept.refl No w
      have HK := Lib.hid hk
      clear hk
      go_wp2_with fail
      go_ret
      exact ⟨by rw [← HR.out]; rfl, rfl⟩
end Go.Proofs.YtphlpclhmodekaaDoor
