/-
  Ident: ids within a run (St), each call's contract in one sentence, and the law's 'known'.
-/
import Derived.Test.YtkdienebinnopaaDoorWalkF
namespace Go.Proofs.YtkdienebinnopaaDoor
open Go.RowKit Go.Zn Go.Shelf
attribute [local go_sem] Oper.semAt_some

/-- ids of this run, in the world behind w0 -/
structure St (w0 : World) (b tb most : Nat) (t : Nat → Bool) (w : World) : Prop where
  ids : Ids w b tb most t
  kept : Kept No w0 w
  new : w0.heap.size ≤ tb
theorem St.no {w0 w w' : World} {b tb most : Nat} {t : Nat → Bool} (h : St w0 b tb most t w) (hk : Kept No w w') : St w0 b tb most t w' := ⟨h.ids.no hk, h.kept.and hk, h.new⟩
theorem St.put {w0 w w' : World} {b tb most : Nat} {t t' : Nat → Bool} (h : St w0 b tb most t w) (hi : Ids w' b tb most t') (hk : Kept (Bk tb) w w') : St w0 b tb most t' w' :=
  ⟨hi, h.kept.new hk (fun i e => by cases e; exact h.new), h.new⟩
theorem St.laid {w0 w : World} {b tb most : Nat} {t : Nat → Bool} (h : St w0 b tb most t w) (hl : Laid w0) : Laid w := hl.kept h.kept (not_no _)
def claimC (t : Nat → Bool) (most : Nat) (id : Int) : Int := if 1 ≤ id ∧ id ≤ most then (if t id.toNat then 11 else 0) else 2
def freeC (t : Nat → Bool) (most : Nat) (id : Int) : Int := if 1 ≤ id ∧ id ≤ most then (if t id.toNat then 0 else 9) else 2
def claimT (t : Nat → Bool) (most : Nat) (id : Int) : Nat → Bool := if claimC t most id = 0 then put t id.toNat true else t
def freeT (t : Nat → Bool) (most : Nat) (id : Int) : Nat → Bool := if freeC t most id = 0 then put t id.toNat false else t
theorem st_claim {w0 w : World} {b tb most : Nat} {t : Nat → Bool} (h : St w0 b tb most t w) (id : Int) :
    Calls Tryd.prog 15 #[.pointer (some ⟨b, 0, none⟩), .int .i64 id] w fun e w' => e = .returned (.int .i64 (claimC t most id)) ∧ St w0 b tb most (claimT t most id) w' ∧ Kept (Bk tb) w w' := by
  unfold claimT
  by_cases hr : 1 ≤ id ∧ id ≤ most
  · cases ht : t id.toNat
    · have hc : claimC t most id = 0 := by unfold claimC; rw [if_pos hr, ht]; rfl
      rw [hc, if_pos rfl]
      exact (claim_ok h.ids id hr.1 hr.2 ht).mono fun e w' ⟨h1, h2, h3⟩ => ⟨h1, h.put h2 h3, h3⟩
    · have hc : claimC t most id = 11 := by unfold claimC; rw [if_pos hr, ht]; rfl
      rw [hc, if_neg (by decide)]
      exact (claim_busy h.ids id hr.1 ht).mono fun e w' ⟨h1, h2, h3⟩ => ⟨h1, h.put h2 h3, h3⟩
  · have hc : claimC t most id = 2 := by unfold claimC; rw [if_neg hr]
    rw [hc, if_neg (by decide)]
    exact (claim_out h.ids id (by omega)).mono fun e w' ⟨h1, h2, h3⟩ => ⟨h1, h.put h2 h3, h3⟩
theorem st_free {w0 w : World} {b tb most : Nat} {t : Nat → Bool} (h : St w0 b tb most t w) (id : Int) :
    Calls Tryd.prog 13 #[.pointer (some ⟨b, 0, none⟩), .int .i64 id] w fun e w' => e = .returned (.int .i64 (freeC t most id)) ∧ St w0 b tb most (freeT t most id) w' ∧ Kept (Bk tb) w w' := by
  unfold freeT
  by_cases hr : 1 ≤ id ∧ id ≤ most
  · cases ht : t id.toNat
    · have hc : freeC t most id = 9 := by unfold freeC; rw [if_pos hr, ht]; rfl
      rw [hc, if_neg (by decide)]
      exact (free_none h.ids id hr.1 hr.2 ht).mono fun e w' ⟨h1, h2, h3⟩ => ⟨h1, h.put h2 h3, h3⟩
    · have hc : freeC t most id = 0 := by unfold freeC; rw [if_pos hr, ht]; rfl
      rw [hc, if_pos rfl]
      exact (free_ok h.ids id hr.1 ht).mono fun e w' ⟨h1, h2, h3⟩ => ⟨h1, h.put h2 h3, h3⟩
  · have hc : freeC t most id = 2 := by unfold freeC; rw [if_neg hr]
    rw [hc, if_neg (by decide)]
    exact (free_out h.ids id (by omega)).mono fun e w' ⟨h1, h2, h3⟩ => ⟨h1, h.put h2 h3, h3⟩
theorem st_has {w0 w : World} {b tb most : Nat} {t : Nat → Bool} (h : St w0 b tb most t w) (id : Int) :
    Calls Tryd.prog 16 #[.pointer (some ⟨b, 0, none⟩), .int .i64 id] w fun e w' => e = .returned (.bool (has t id)) ∧ St w0 b tb most t w' ∧ Kept (Bk tb) w w' :=
  (has_kept h.ids id).mono fun e w' ⟨h1, h2⟩ => ⟨h1, h.no h2, h2.any⟩
theorem st_len {w0 w : World} {b tb most : Nat} {t : Nat → Bool} (h : St w0 b tb most t w) :
    Calls Tryd.prog 11 #[.pointer (some ⟨b, 0, none⟩)] w fun e w' => e = .returned (.int .i64 (cnt t most : Nat)) ∧ St w0 b tb most t w' ∧ Kept (Bk tb) w w' :=
  (len_any h.ids).mono fun e w' ⟨h1, h2⟩ => ⟨h1, h2 ▸ h, h2 ▸ Kept.refl _ _⟩
theorem st_room {w0 w : World} {b tb most : Nat} {t : Nat → Bool} (h : St w0 b tb most t w) (r : Int) (hr : r = (most : Int) - (cnt t most : Nat)) :
    Calls Tryd.prog 12 #[.pointer (some ⟨b, 0, none⟩)] w fun e w' => e = .returned (.int .i64 r) ∧ St w0 b tb most t w' ∧ Kept (Bk tb) w w' :=
  (room_any h.ids r hr).mono fun e w' ⟨h1, q, h2⟩ => ⟨h1, h.no (by rw [h2]; exact (Kept.refl No w).drewN q), by rw [h2]; exact (Kept.refl _ w).drewN q⟩
theorem st_takes {w0 w : World} {b tb most : Nat} {t : Nat → Bool} (h : St w0 b tb most t w) (hl : Laid w0) (id : Nat) (hid : LeastFree t most id) (x : Int) (hx : x = (id : Nat)) :
    Calls Tryd.prog 10 #[.pointer (some ⟨b, 0, none⟩), .int .i64 x, .int .i64 0] w fun e w' => e = .returned (.bool true) ∧ St w0 b tb most (YtkdienebinnopaaDoor.put t id true) w' ∧ Kept (Bk tb) w w' :=
  (takes_ok h.ids (h.laid hl) id hid x hx).mono fun e w' ⟨h1, h2, h3⟩ => ⟨h1, h.put h2 h3, h3⟩
theorem st_full {w0 w : World} {b tb most : Nat} {t : Nat → Bool} (h : St w0 b tb most t w) (hl : Laid w0) (ha : AllTaken t most) :
    Calls Tryd.prog 10 #[.pointer (some ⟨b, 0, none⟩), .int .i64 0, .int .i64 7] w fun e w' => e = .returned (.bool true) ∧ St w0 b tb most t w' ∧ Kept (Bk tb) w w' :=
  (takes_full h.ids (h.laid hl) ha).mono fun e w' ⟨h1, h2, h3⟩ => ⟨h1, h.put h2 h3, h3⟩
theorem st_all {w0 w : World} {b tb most : Nat} {t : Nat → Bool} (h : St w0 b tb most t w) (C : Nat → Prop) (v2 : Value) (hr : Rd w C 1 v2 (idl t most).length (ints (idl t most))) :
    Calls Tryd.prog 22 #[.pointer (some ⟨b, 0, none⟩), v2] w fun e w' => e = .returned (.bool true) ∧ St w0 b tb most t w' ∧ Kept (Bk tb) w w' :=
  (all_any h.ids.m2 (allf_any h.ids) C v2 hr).mono fun e w' ⟨h1, h2⟩ => ⟨h1, h.no h2, h2.any⟩
theorem st_new (w0 w : World) (hk : Kept No w0 w) (most : Nat) (h1 : 1 ≤ most) (h2 : most ≤ 4096) : Calls Tryd.prog 9 #[.int .i64 most] w fun e w' =>
    ∃ b tb, e = .returned (.tuple #[.pointer (some ⟨b, 0, none⟩), .int .i64 0]) ∧ St w0 b tb most (fun _ => false) w' ∧ Kept No w w' ∧ w.heap.size ≤ tb :=
  (new_ok most w h1 h2).mono fun e w' ⟨b, tb, e1, e2, e3, _, e5⟩ => ⟨b, tb, e1, ⟨e2, hk.and e5, by have := hk.size; omega⟩, e5, e3⟩

/-! ### known -/
def k0 : Nat → Bool := fun _ => false
def k1 := put k0 1 true
def k2 := put k1 2 true
def k3 := put k2 1 false
def k4 := put k3 1 true
def k5 := put k4 3 true
def k6 := put k5 2 false
def k7 := put k6 2 true
theorem rd_row (w : World) (cs : List Value) (t : TypeId) (n : Nat) (h : cs.length = n) (hm : n ≤ maxLen) : Rd (w.alloc (.cells cs.toArray t)) (fun i => i = w.heap.size) 1 (.slice (some ⟨w.heap.size, 0, none⟩) n n) n cs :=
  ⟨by omega, hm, .inr ⟨_, _, _, rfl, Nat.le_refl _, fun _ => rfl, fun j u hj => by
    rw [obj_cell (heap_alloc_new w _), Nat.zero_add]; simpa using hj⟩⟩
theorem st_all3 {w0 w : World} {b tb most : Nat} {t : Nat → Bool} (h : St w0 b tb most t w) (ht : idl t most = [1, 2, 3]) :
    Calls Tryd.prog 22 #[.pointer (some ⟨b, 0, none⟩), .slice (some ⟨w.heap.size, 0, none⟩) 3 3] (w.alloc (.cells #[.int .i64 1, .int .i64 2, .int .i64 3] 3)) fun e w' => e = .returned (.bool true) ∧ St w0 b tb most t w' ∧ Kept (Bk tb) (w.alloc (.cells #[.int .i64 1, .int .i64 2, .int .i64 3] 3)) w' :=
  st_all (h.no ((Kept.refl No w).alloc _)) (fun i => i = w.heap.size) _ (by rw [ht]; exact rd_row w [.int .i64 1, .int .i64 2, .int .i64 3] 3 3 rfl (by decide))
set_option maxRecDepth 100000 in
set_option maxHeartbeats 3200000 in
theorem known_any (w : World) (hl : Laid w) : Calls Tryd.prog 8 #[] w fun e w' => e = .returned (.bool true) ∧ Kept No w w' := by
  have HL := Lib.hid hl
  clear hl
  go_enter Tryd.func8, Tryd.ntmps8
  go_wp2_with fail
  refine (st_new w _ (Kept.refl No w) 3 (by decide) (by decide)).mono ?_
  rintro e w' ⟨b, tb, rfl, hs, -⟩
  have HS := Lib.hid hs
  clear hs
  go_wp2_with fail
  refine (st_takes (t := k0) HS.out HL.out 1 ⟨by decide, by decide, rfl, fun k h1 h2 => by omega⟩ 1 rfl).mono ?_
  rintro e w' ⟨rfl, hs, -⟩
  have HS := Lib.hid hs
  clear hs
  go_wp2_with fail
  refine (st_takes (t := k1) HS.out HL.out 2 ⟨by decide, by decide, rfl, fun k h1 h2 => by obtain rfl : k = 1 := (by omega); rfl⟩ 2 rfl).mono ?_
  rintro e w' ⟨rfl, hs, -⟩
  have HS := Lib.hid hs
  clear hs
  go_wp2_with fail
  refine (st_free (t := k2) HS.out 1).mono ?_
  rintro e w' ⟨rfl, hs, -⟩
  have HS := Lib.hid hs
  clear hs
  go_wp2_with fail
  refine (st_takes (t := k3) HS.out HL.out 1 ⟨by decide, by decide, rfl, fun k h1 h2 => by omega⟩ 1 rfl).mono ?_
  rintro e w' ⟨rfl, hs, -⟩
  have HS := Lib.hid hs
  clear hs
  go_wp2_with fail
  refine (st_claim (t := k4) HS.out 3).mono ?_
  rintro e w' ⟨rfl, hs, -⟩
  have HS := Lib.hid hs
  clear hs
  go_wp2_with fail
  refine (st_full (t := k5) HS.out HL.out (fun k h1 h2 => by obtain rfl | rfl | rfl : k = 1 ∨ k = 2 ∨ k = 3 := (by omega) <;> rfl)).mono ?_
  rintro e w' ⟨rfl, hs, -⟩
  have HS := Lib.hid hs
  clear hs
  go_wp2_with fail
  refine (st_free (t := k5) HS.out 2).mono ?_
  rintro e w' ⟨rfl, hs, -⟩
  have HS := Lib.hid hs
  clear hs
  go_wp2_with fail
  refine (st_free (t := k6) HS.out 2).mono ?_
  rintro e w' ⟨rfl, hs, -⟩
  have HS := Lib.hid hs
  clear hs
  go_wp2_with fail
  refine (st_takes (t := k6) HS.out HL.out 2 ⟨by decide, by decide, rfl, fun k h1 h2 => by obtain rfl : k = 1 := (by omega); rfl⟩ 2 rfl).mono ?_
  rintro e w' ⟨rfl, hs, -⟩
  have HS := Lib.hid hs
  clear hs
  go_wp2_with fail
  refine (st_all3 (t := k7) HS.out rfl).mono ?_
  rintro e w' ⟨rfl, hs, -⟩
  have HS := Lib.hid hs
  clear hs
  go_wp2_with fail
  refine (st_len (t := k7) HS.out).mono ?_
  rintro e w' ⟨rfl, hs, -⟩
  have HS := Lib.hid hs
  clear hs
  go_wp2_with fail
  refine (st_room (t := k7) HS.out 0 rfl).mono ?_
  rintro e w' ⟨rfl, hs, -⟩
  have HS := Lib.hid hs
  clear hs
  go_wp2_with fail
  refine (st_claim (t := k7) HS.out 0).mono ?_
  rintro e w' ⟨rfl, hs, -⟩
  have HS := Lib.hid hs
  clear hs
  go_wp2_with fail
  refine (st_claim (t := k7) HS.out 4).mono ?_
  rintro e w' ⟨rfl, hs, -⟩
  have HS := Lib.hid hs
  clear hs
  go_wp2_with fail
  refine (st_claim (t := k7) HS.out 2).mono ?_
  rintro e w' ⟨rfl, hs, -⟩
  have HS := Lib.hid hs
  clear hs
  go_wp2_with fail
  refine (st_has (t := k7) HS.out 4).mono ?_
  rintro e w' ⟨rfl, hs, -⟩
  have HS := Lib.hid hs
  clear hs
  go_wp2_with fail
  refine (new_bad 0 _ (.inl (by decide))).mono ?_
  rintro e w' ⟨rfl, rfl⟩
  go_wp2_with fail
  refine (new_bad 4097 _ (.inr (by decide))).mono ?_
  rintro e w' ⟨rfl, rfl⟩
  go_wp2_with fail
  go_ret
  exact ⟨rfl, HS.out.kept⟩
end Go.Proofs.YtkdienebinnopaaDoor
