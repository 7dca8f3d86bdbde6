/-
  Runes: Compare, Starts, keys.
-/
import Derived.Test.YtoahnfmbmpllaaaDoorWalkE
set_option linter.unusedVariables false
set_option linter.unusedSimpArgs false
namespace Go.Proofs.YtoahnfmbmpllaaaDoor
open Go.RowKit Go.Zn
attribute [local go_sem] Oper.semAt_some

theorem less_irr : ∀ a, Op.bytesLess a a = false
  | [] => rfl
  | x :: a => by simp [Op.bytesLess, less_irr a]
theorem less_trans : ∀ a b c, Op.bytesLess a b = true → Op.bytesLess b c = true → Op.bytesLess a c = true
  | _, _, [], _, h => by rename_i b _; cases b <;> simp [Op.bytesLess] at h
  | _, [], _ :: _, h, _ => by rename_i a _ _ _; cases a <;> simp [Op.bytesLess] at h
  | [], _ :: _, _ :: _, _, _ => by simp [Op.bytesLess]
  | x :: a, y :: b, z :: c, h, k => by
    simp only [Op.bytesLess, Bool.or_eq_true, Bool.and_eq_true, decide_eq_true_eq, beq_iff_eq, UInt8.lt_iff_toNat_lt] at h k ⊢
    rcases h with h | ⟨rfl, h⟩
    · rcases k with k | ⟨rfl, k⟩
      · left; omega
      · left; exact h
    · rcases k with k | ⟨rfl, k⟩
      · left; exact k
      · right; exact ⟨rfl, less_trans a b c h k⟩
theorem less_total : ∀ a b, Op.bytesLess a b = false → Op.bytesLess b a = false → a = b
  | [], [], _, _ => rfl
  | [], _ :: _, h, _ => by simp [Op.bytesLess] at h
  | _ :: _, [], _, h => by simp [Op.bytesLess] at h
  | x :: a, y :: b, h, k => by
    simp only [Op.bytesLess, Bool.or_eq_false_iff, Bool.and_eq_false_iff, decide_eq_false_iff_not, beq_eq_false_iff_ne, UInt8.lt_iff_toNat_lt] at h k
    have e : x = y := UInt8.toNat.inj (by omega)
    subst e
    have h2 : Op.bytesLess a b = false := by rcases h.2 with h | h; exact (h rfl).elim; exact h
    have k2 : Op.bytesLess b a = false := by rcases k.2 with h | h; exact (h rfl).elim; exact h
    rw [less_total a b h2 k2]
/-- the order of two strings of bytes -/
def cmpB (a b : List UInt8) : Int := if Op.bytesLess a b = true then -1 else if a = b then 0 else 1
theorem cmpB_self (a : List UInt8) : cmpB a a = 0 := by unfold cmpB; rw [less_irr]; simp
theorem cmpB_neg {a b : List UInt8} : cmpB a b < 0 ↔ Op.bytesLess a b = true := by
  unfold cmpB
  by_cases h : Op.bytesLess a b = true
  · rw [if_pos h]; simp [h]
  · rw [if_neg h]; split <;> simp [h]
theorem cmpB_zero {a b : List UInt8} : cmpB a b = 0 ↔ a = b := by
  unfold cmpB
  by_cases h : Op.bytesLess a b = true
  · rw [if_pos h]
    constructor
    · intro h; omega
    · rintro rfl; rw [less_irr] at h; cases h
  · rw [if_neg h]
    by_cases e : a = b
    · rw [if_pos e]; simp [e]
    · rw [if_neg e]; simp [e]
theorem cmpB_pos {a b : List UInt8} : 0 < cmpB a b ↔ Op.bytesLess b a = true := by
  constructor
  · intro h
    have h1 : ¬ cmpB a b < 0 := by omega
    have h2 : ¬ cmpB a b = 0 := by omega
    rw [cmpB_neg] at h1
    rw [cmpB_zero] at h2
    cases hb : Op.bytesLess b a
    · exact (h2 (less_total a b (by simpa using h1) hb)).elim
    · rfl
  · intro h
    unfold cmpB
    rw [if_neg, if_neg]
    · decide
    · rintro rfl; rw [less_irr] at h; cases h
    · intro k
      have := less_trans _ _ _ h k
      rw [less_irr] at this
      cases this
theorem cmpB_one (a b : List UInt8) : cmpB a b = -1 ∨ cmpB a b = 0 ∨ cmpB a b = 1 := by
  unfold cmpB
  split
  · exact .inl rfl
  · split
    · exact .inr (.inl rfl)
    · exact .inr (.inr rfl)
/-- the order of two strings -/
def cmpS (a b : List UInt8) : Int := if cmpB (foldS a) (foldS b) ≠ 0 then cmpB (foldS a) (foldS b) else cmpB a b
theorem cmpS_self (a : List UInt8) : cmpS a a = 0 := by unfold cmpS; rw [cmpB_self, cmpB_self]; simp
theorem cmpS_zero {a b : List UInt8} : cmpS a b = 0 ↔ a = b := by
  unfold cmpS
  constructor
  · intro h
    split at h
    · next hn => exact (hn h).elim
    · exact cmpB_zero.mp h
  · rintro rfl
    rw [cmpB_self, cmpB_self]; simp
theorem cmpS_lt {a b : List UInt8} : cmpS a b < 0 ↔ Op.bytesLess (foldS a) (foldS b) = true ∨ (foldS a = foldS b ∧ Op.bytesLess a b = true) := by
  unfold cmpS
  by_cases h : cmpB (foldS a) (foldS b) = 0
  · rw [if_neg (by simpa using h), cmpB_neg]
    have e := cmpB_zero.mp h
    rw [e, less_irr]
    simp
  · rw [if_pos h, cmpB_neg]
    have e : foldS a ≠ foldS b := fun e => h (cmpB_zero.mpr e)
    simp [e]
theorem cmpS_gt {a b : List UInt8} : 0 < cmpS a b ↔ Op.bytesLess (foldS b) (foldS a) = true ∨ (foldS a = foldS b ∧ Op.bytesLess b a = true) := by
  unfold cmpS
  by_cases h : cmpB (foldS a) (foldS b) = 0
  · rw [if_neg (by simpa using h), cmpB_pos]
    have e := cmpB_zero.mp h
    rw [e, less_irr]
    simp
  · rw [if_pos h, cmpB_pos]
    have e : foldS a ≠ foldS b := fun e => h (cmpB_zero.mpr e)
    simp [e]
/-- a string before another one that is before a third one is before that, too -/
theorem cmpS_lt_trans {a b c : List UInt8} (h : cmpS a b < 0) (k : cmpS b c < 0) : cmpS a c < 0 := by
  rw [cmpS_lt] at h k ⊢
  rcases h with h | ⟨h1, h⟩
  · rcases k with k | ⟨k1, k⟩
    · exact .inl (less_trans _ _ _ h k)
    · exact .inl (k1 ▸ h)
  · rcases k with k | ⟨k1, k⟩
    · exact .inl (h1 ▸ k)
    · exact .inr ⟨h1.trans k1, less_trans _ _ _ h k⟩
theorem cmpS_gt_trans {a b c : List UInt8} (h : 0 < cmpS a b) (k : 0 < cmpS b c) : 0 < cmpS a c := by
  rw [cmpS_gt] at h k ⊢
  rcases h with h | ⟨h1, h⟩
  · rcases k with k | ⟨k1, k⟩
    · exact .inl (less_trans _ _ _ k h)
    · exact .inl (k1 ▸ h)
  · rcases k with k | ⟨k1, k⟩
    · exact .inl (h1 ▸ k)
    · exact .inr ⟨h1.trans k1, less_trans _ _ _ k h⟩
theorem strOf_toList (l : List UInt8) : (strOf l).toList = l := by rw [ByteArray.toList_eq]; exact strOf_list l
theorem nan_any (s : ByteArray) (w : World) : Calls Tryd.prog 36 #[.string s] w fun e w' => e = .returned (.bool false) ∧ w' = w := by
  go_enter Tryd.func36, Tryd.ntmps36
  go_wp2_with fail
  go_ret
  exact ⟨rfl, rfl⟩
theorem cmp_any (a b : List UInt8) (w : World) : Calls Tryd.prog 22 #[.string (strOf a), .string (strOf b)] w fun e w' => e = .returned (.int .i64 (cmpB a b)) ∧ w' = w := by
  have HN := Lib.hid (fun s w => nan_any s w)
  obtain ⟨u, hu⟩ : ∃ u, Op.bytesLess a b = u := ⟨_, rfl⟩
  have e1 : Op.bytesLess (strOf a).toList (strOf b).toList = u := by rw [strOf_toList, strOf_toList, hu]
  cases u
  · by_cases he : a = b
    · subst he
      have e2 : ((strOf a).toList == (strOf a).toList) = true := by simp
      have HR := Lib.hid (cmpB_self a)
      go_enter Tryd.func22, Tryd.ntmps22
      go_wp2_with fail
      refine (HN.out _ _).mono ?_
      rintro e w1 ⟨rfl, hk⟩
      have hk := hk.symm
      subst hk
      go_wp2_with fail
      refine (HN.out _ _).mono ?_
      rintro e w1 ⟨rfl, hk⟩
      have hk := hk.symm
      subst hk
      go_wp2_with fail
      go_ret
      exact ⟨by rw [HR.out]; rfl, rfl⟩
    · have e2 : ((strOf a).toList == (strOf b).toList) = false := by rw [strOf_toList, strOf_toList, beq_eq_false_iff_ne]; exact he
      have HR := Lib.hid (show cmpB a b = 1 by unfold cmpB; rw [hu, if_neg he]; rfl)
      go_enter Tryd.func22, Tryd.ntmps22
      go_wp2_with fail
      refine (HN.out _ _).mono ?_
      rintro e w1 ⟨rfl, hk⟩
      have hk := hk.symm
      subst hk
      go_wp2_with fail
      refine (HN.out _ _).mono ?_
      rintro e w1 ⟨rfl, hk⟩
      have hk := hk.symm
      subst hk
      go_wp2_with fail
      go_ret
      exact ⟨by rw [HR.out]; rfl, rfl⟩
  · have HR := Lib.hid (show cmpB a b = -1 by unfold cmpB; rw [hu]; rfl)
    go_enter Tryd.func22, Tryd.ntmps22
    go_wp2_with fail
    refine (HN.out _ _).mono ?_
    rintro e w1 ⟨rfl, hk⟩
    have hk := hk.symm
    subst hk
    go_wp2_with fail
    refine (HN.out _ _).mono ?_
    rintro e w1 ⟨rfl, hk⟩
    have hk := hk.symm
    subst hk
    go_wp2_with fail
    go_ret
    exact ⟨by rw [HR.out]; rfl, rfl⟩
/-- the first one of two numbers that is not 0 -/
def orV (x y : Int) : Int := if x ≠ 0 then x else y
def OrRel (m : Nat) (w0 : World) (iv : Value) (wr : World) : Prop := ∃ i : Nat, iv = .int .i64 (i : Nat) ∧ i ≤ m ∧ wr = w0
theorem or_rel (m i : Nat) (w0 : World) (h : i ≤ m) : OrRel m w0 (.int .i64 (i : Nat)) w0 := ⟨i, rfl, h, rfl⟩
theorem or_any (x y : Int) {w : World} {b cap : Nat} (h0 : w.cell? ⟨b, 0, none⟩ = some (.int .i64 x)) (h1 : w.cell? ⟨b, 1, none⟩ = some (.int .i64 y)) : Calls Tryd.prog 21 #[.slice (some ⟨b, 0, none⟩) 2 cap] w fun e w' => e = .returned (.int .i64 (orV x y)) ∧ w' = w := by
  by_cases hx : x = 0
  · subst hx
    have HR := Lib.hid (show orV 0 y = y by simp [orV])
    by_cases hy : y = 0
    · subst hy
      go_enter Tryd.func21, Tryd.ntmps21
      go_wp2_with fail
      go_loopw [8] (fun iv wr => OrRel 2 w iv wr) (fun iv _ => 2 - (intOf iv).toNat)
      case atStart => exact or_rel 2 0 w (by decide)
      case round =>
        obtain ⟨i, rfl, hi, rfl⟩ := hrel
        obtain rfl | rfl | rfl : i = 0 ∨ i = 1 ∨ i = 2 := by omega
        · go_wp2_with fail
          exact ⟨or_rel 2 1 _ (by decide), by simp [intOf]⟩
        · go_wp2_with fail
          exact ⟨or_rel 2 2 _ (by decide), by simp [intOf]⟩
        · go_wp2_with fail
          go_ret
          exact ⟨by rw [HR.out]; rfl, rfl⟩
    · have e2 : (y != 0) = true := by simpa using hy
      clear hy
      go_enter Tryd.func21, Tryd.ntmps21
      go_wp2_with fail
      go_loopw [8] (fun iv wr => OrRel 1 w iv wr) (fun iv _ => 2 - (intOf iv).toNat)
      case atStart => exact or_rel 1 0 w (by decide)
      case round =>
        obtain ⟨i, rfl, hi, rfl⟩ := hrel
        obtain rfl | rfl : i = 0 ∨ i = 1 := by omega
        · go_wp2_with fail
          exact ⟨or_rel 1 1 _ (by decide), by simp [intOf]⟩
        · go_wp2_with fail
          go_ret
          exact ⟨by rw [HR.out]; rfl, rfl⟩
  · have e1 : (x != 0) = true := by simpa using hx
    have HR := Lib.hid (show orV x y = x by unfold orV; rw [if_pos hx])
    clear hx
    go_enter Tryd.func21, Tryd.ntmps21
    go_wp2_with fail
    go_loopw [8] (fun iv wr => OrRel 0 w iv wr) (fun iv _ => 2 - (intOf iv).toNat)
    case atStart => exact or_rel 0 0 w (by decide)
    case round =>
      obtain ⟨i, rfl, hi, rfl⟩ := hrel
      obtain rfl : i = 0 := by omega
      go_wp2_with fail
      go_ret
      exact ⟨by rw [HR.out]; rfl, rfl⟩
theorem compare_any {a b : List UInt8} (ha : a.length ≤ 10000) (hb : b.length ≤ 10000) {w : World} (hV : VS w) : Calls Tryd.prog 11 #[.string (strOf a), .string (strOf b)] w fun e w' => e = .returned (.int .i64 (cmpS a b)) ∧ Kept No w w' := by
  have HFA := Lib.hid (foldS_any (show a.length ≤ 100000 by omega) hV)
  have HFB := Lib.hid (fun w (h : VS w) => foldS_any (show b.length ≤ 100000 by omega) h)
  have HC := Lib.hid (fun a b w => cmp_any a b w)
  have HV := Lib.hid hV
  have HR := Lib.hid (show cmpS a b = orV (cmpB (foldS a) (foldS b)) (cmpB a b) from rfl)
  clear hV
  go_enter Tryd.func11, Tryd.ntmps11
  go_wp2_with fail
  refine HFA.out.mono ?_
  rintro e w1 ⟨rfl, hk⟩
  have HK1 := Lib.hid hk
  clear hk
  go_wp2_with fail
  refine (HFB.out _ (HV.out.no HK1.out)).mono ?_
  rintro e w2 ⟨rfl, hk⟩
  have HK2 := Lib.hid (HK1.out.and hk)
  clear hk
  go_wp2_with fail
  refine (HC.out _ _ _).mono ?_
  rintro e w3 ⟨rfl, hk⟩
  have hk := hk.symm
  subst hk
  go_wp2_with fail
  refine (HC.out _ _ _).mono ?_
  rintro e w3 ⟨rfl, hk⟩
  have hk := hk.symm
  subst hk
  go_wp2_with fail
  refine (or_any (cmpB (foldS a) (foldS b)) (cmpB a b) (by rw [obj_cell (heap_alloc_new _ _) 0]; rfl) (by rw [obj_cell (heap_alloc_new _ _) 1]; rfl)).mono ?_
  rintro e w3 ⟨rfl, hk⟩
  have hk := hk.symm
  subst hk
  go_wp2_with fail
  go_ret
  exact ⟨by rw [HR.out]; rfl, HK2.out.alloc _⟩
end Go.Proofs.YtoahnfmbmpllaaaDoor
