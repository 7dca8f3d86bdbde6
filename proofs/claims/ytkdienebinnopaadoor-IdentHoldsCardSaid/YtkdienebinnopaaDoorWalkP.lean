/-
  IdentHolds: the walk.
-/
import Derived.Test.YtkdienebinnopaaDoorWalkO
import Derived.Maps.RangeWalk
namespace Go.Proofs.YtkdienebinnopaaDoor
open Go.RowKit Go.Zn Go.Shelf
attribute [local go_sem] Oper.semAt_some

abbrev RM (w : World) (b r n : Nat) (D : DataW Unit) (left : Lit → Bool) (cn : Nat) : Prop := w.ranges Tryd.prog 3 (plainElem Tryd.prog 4) b r n D left cn
theorem elem_bool_any {v : Value} {y : DataW Unit × List MemPlace} (h : plainElem (H := Unit) Tryd.prog 4 v = some y) : ∃ x, v = .bool x ∧ y = (.lit (.bool x), []) := by
  unfold plainElem at h
  rw [Tryd.underlying4] at h
  split at h
  · cases h; exact ⟨_, rfl, rfl⟩
  · rename_i e; cases e
  · rename_i e; cases e
  · cases h
theorem bm_next {w : World} {b r n cn : Nat} {D : DataW Unit} {s : Int → Bool} {left : Lit → Bool} (h : RM w b r n D left cn) (hs : Says D s) (ty : TypeId) :
    (Instr.next (.pointer (some ⟨r, 0, none⟩)) false ty).run Tryd.prog w = .ok (.tuple #[.bool false]) w ∨
    ∃ (x : Int) (y : Bool) (w' : World) (left' : Lit → Bool) (cn' : Nat), y = s x ∧ (Instr.next (.pointer (some ⟨r, 0, none⟩)) false ty).run Tryd.prog w = .ok (.tuple #[.bool true, .int .i64 x, .bool y]) w' ∧
      RM w' b r n D left' cn' ∧ cn' < cn ∧ Kept (fun i => i = r) w w' ∧ (Instr.entry (.pointer (some ⟨r, 0, none⟩))).run Tryd.prog w' = .ok (.tuple #[.int .i64 x, .bool y]) w' := by
  rcases World.ranges.next h keyed3 ty with ⟨_, _, h1⟩ | ⟨key, v, kl, y, w', cn', hkey, _, hR, hat, hrun, hrm, hlt, hg, _, hen⟩
  · exact .inl h1
  · obtain ⟨x, rfl, rfl, _⟩ := Maps.keyOf_int_inv Tryd.underlying3 hkey
    obtain ⟨c, rfl, rfl⟩ := elem_bool_any hR
    have hc : c = s x := by
      have e1 := hat (.lit (.bool false))
      rw [hs.2 x] at e1
      simp at e1
      exact e1.symm
    exact .inr ⟨x, c, w', _, cn', hc, hrun, hrm, hlt, (Kept.refl _ w).grown hg (fun k e _ => by cases e; rfl), hen⟩
theorem rm_kept {w w' : World} {b r n cn k : Nat} {D : DataW Unit} {left : Lit → Bool} (h : RM w b r n D left cn) (hk : Kept (fun i => i = k) w w') (hb : b ≠ k) (hr : r ≠ k) : RM w' b r n D left cn :=
  World.ranges.kept (row := some k) h ⟨hk.os, hk.tape, hk.output, hk.size, fun i hi hn => hk.block i hi (fun e => hn (by rw [e]))⟩ (fun e => hb (by cases e; rfl)) (fun e => hr (by cases e; rfl))
def hd (s : Int → Bool) : Nat → Bool := fun m => s (m : Int)
theorem hd_put (s : Int → Bool) (i : Nat) (v : Bool) : put (hd s) i v = hd (mput s i v) := by
  funext m
  unfold put hd mput
  by_cases e : m = i
  · subst e; simp
  · have : ¬ ((m : Int) = (i : Int)) := by omega
    rw [if_neg e, if_neg this]
structure HR (w : World) (b tb mb n L : Nat) (D : DataW Unit) (s : Int → Bool) (wr : World) : Prop where
  st : St w b tb n (hd s) wr
  bm : BM wr mb L D
  says : Says D s
  only : ∀ x, s x = true → 1 ≤ x ∧ x ≤ n
  nb : b ≠ mb ∧ tb ≠ mb ∧ w.heap.size ≤ mb
theorem HR.has {w : World} {b tb mb n L : Nat} {D : DataW Unit} {s : Int → Bool} {wr : World} (h : HR w b tb mb n L D s wr) (x : Int) : has (hd s) x = s x := by
  unfold YtkdienebinnopaaDoor.has hd
  by_cases h1 : 1 ≤ x
  · rw [show ((x.toNat : Nat) : Int) = x by omega]; simp [h1]
  · cases hs : s x
    · simp [h1]
    · exact absurd (h.only x hs).1 h1
theorem HR.claim {w : World} {b tb mb n L : Nat} {D : DataW Unit} {s : Int → Bool} {wr : World} (h : HR w b tb mb n L D s wr) (x : Int) : claimC (hd s) n x = if 1 ≤ x ∧ x ≤ n then (if s x then 11 else 0) else 2 := by
  unfold claimC
  by_cases hr : 1 ≤ x ∧ x ≤ n
  · rw [if_pos hr, if_pos hr]
    unfold hd
    rw [show ((x.toNat : Nat) : Int) = x by omega]
  · rw [if_neg hr, if_neg hr]
theorem HR.free {w : World} {b tb mb n L : Nat} {D : DataW Unit} {s : Int → Bool} {wr : World} (h : HR w b tb mb n L D s wr) (x : Int) : freeC (hd s) n x = if 1 ≤ x ∧ x ≤ n then (if s x then 0 else 9) else 2 := by
  unfold freeC
  by_cases hr : 1 ≤ x ∧ x ≤ n
  · rw [if_pos hr, if_pos hr]
    unfold hd
    rw [show ((x.toNat : Nat) : Int) = x by omega]
  · rw [if_neg hr, if_neg hr]
/-- nothing turned but new blocks -/
theorem HR.no {w : World} {b tb mb n L : Nat} {D : DataW Unit} {s : Int → Bool} {wr w1 : World} (h : HR w b tb mb n L D s wr) (hk : Kept No wr w1) : HR w b tb mb n L D s w1 :=
  ⟨h.st.no hk, bm_kept h.bm hk (not_no _), h.says, h.only, h.nb⟩
/-- one block of another's turned -/
theorem HR.off {w : World} {b tb mb n L r : Nat} {D : DataW Unit} {s : Int → Bool} {wr w1 : World} (h : HR w b tb mb n L D s wr) (hk : Kept (fun i => i = r) wr w1) (hr : b ≠ r ∧ tb ≠ r ∧ mb ≠ r ∧ w.heap.size ≤ r) : HR w b tb mb n L D s w1 :=
  ⟨h.st.off hk hr.1 hr.2.1 hr.2.2.2, bm_kept h.bm hk hr.2.2.1, h.says, h.only, h.nb⟩
/-- a call that changes nothing -/
theorem HR.bk {w : World} {b tb mb n L : Nat} {D : DataW Unit} {s : Int → Bool} {wr w1 : World} (h : HR w b tb mb n L D s wr) (hs : St w b tb n (hd s) w1) (hk : Kept (Bk tb) wr w1) : HR w b tb mb n L D s w1 :=
  ⟨hs, bm_kept h.bm hk (fun e => h.nb.2.1 e.symm), h.says, h.only, h.nb⟩
theorem HR.up {w : World} {b tb mb n L : Nat} {D : DataW Unit} {s : Int → Bool} {wr : World} (h : HR w b tb mb n L D s wr) : HR w b tb mb n (L + 1) D s wr := ⟨h.st, h.bm.mono (Nat.le_succ _), h.says, h.only, h.nb⟩
/-- an id is put into the map, or its taking back -/
theorem HR.set {w : World} {b tb mb n L : Nat} {D : DataW Unit} {s : Int → Bool} {wr w1 w2 : World} (h : HR w b tb mb n L D s wr) (x : Int) (h1 : 1 ≤ x) (h2 : x ≤ n) (v : Bool) (hs : St w b tb n (put (hd s) x.toNat v) w1) (hb : BM w2 mb (L + 1) (D.put (.int .i64 x) (.lit (.bool v)))) (hk : Kept (fun i => i = mb) w1 w2) :
    HR w b tb mb n (L + 1) (D.put (.int .i64 x) (.lit (.bool v))) (mput s x v) w2 := by
  have e : put (hd s) x.toNat v = hd (mput s x v) := by
    have := hd_put s x.toNat v
    rw [show ((x.toNat : Nat) : Int) = x by omega] at this
    exact this
  rw [e] at hs
  refine ⟨hs.off hk h.nb.1 h.nb.2.1 h.nb.2.2, hb, h.says.put _ _, fun y hy => ?_, h.nb⟩
  unfold mput at hy
  by_cases ey : y = x
  · omega
  · rw [if_neg ey] at hy; exact h.only y hy
theorem cnt_put_on (t : Nat → Bool) (i : Nat) : ∀ n, i ≤ n → 1 ≤ i → t i = false → cnt (put t i true) n = cnt t n + 1 := fun n h1 h2 ht => by
  have h := cnt_put_off (put t i true) i n h1 h2 (by unfold put; rw [if_pos rfl])
  have e : put (put t i true) i false = t := by
    funext m
    unfold put
    by_cases e : m = i
    · subst e; simp [ht]
    · simp [e]
  rw [e] at h
  omega
theorem hd_on {s : Int → Bool} {n : Nat} {x : Int} (h1 : 1 ≤ x) (h2 : x ≤ n) (hs : s x = false) : cnt (hd (mput s x true)) n = cnt (hd s) n + 1 := by
  obtain ⟨i, rfl⟩ := Int.eq_ofNat_of_zero_le (show 0 ≤ x by omega)
  rw [← hd_put]
  exact cnt_put_on _ _ _ (by omega) (by omega) hs
theorem hd_off {s : Int → Bool} {n : Nat} {x : Int} (h1 : 1 ≤ x) (h2 : x ≤ n) (hs : s x = true) : cnt (hd (mput s x false)) n + 1 = cnt (hd s) n := by
  obtain ⟨i, rfl⟩ := Int.eq_ofNat_of_zero_le (show 0 ≤ x by omega)
  rw [← hd_put]
  exact cnt_put_off _ _ _ (by omega) (by omega) hs
theorem cnt_lt {t : Nat → Bool} {i : Nat} : ∀ {n : Nat}, 1 ≤ i → i ≤ n → t i = false → cnt t n < n
  | 0, h1, h2, _ => by omega
  | n + 1, h1, h2, ht => by
    show cnt t n + (t (n + 1)).toNat < n + 1
    by_cases e : i = n + 1
    · have := cnt_le t n
      rw [← e, ht]
      show cnt t n + 0 < i
      omega
    · have := cnt_lt (n := n) h1 (by omega) ht
      have := Bool.toNat_le (t (n + 1))
      omega
theorem take_st {w w1 : World} {b tb mb n L : Nat} {D : DataW Unit} {s : Int → Bool} (h : HR w b tb mb n L D s w1) (hl : Laid w) : Calls Tryd.prog 14 #[.pointer (some ⟨b, 0, none⟩)] w1 (TakePost b tb n (hd s) w1) := take_any h.st.ids (h.st.laid hl)
end Go.Proofs.YtkdienebinnopaaDoor
