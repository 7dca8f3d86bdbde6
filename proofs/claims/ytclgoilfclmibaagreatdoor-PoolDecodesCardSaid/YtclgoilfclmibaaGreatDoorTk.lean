/-
  Pool: the reader of bytes: take, number, most.
-/
import Derived.Test.YtclgoilfclmibaaGreatDoorEc
import Derived.Deep.OwnRows
set_option linter.unusedVariables false
set_option linter.unusedSimpArgs false
namespace Go.Proofs.YtclgoilfclmibaaGreatDoor
open Go.RowKit Go.Zn
attribute [local go_sem] Oper.semAt_some

/-- what is sliced off reads -/
theorem slice_to {w : World} {B : Nat → Prop} {v : Value} {m : Nat} {r : List UInt8} (h : Rd w B 1 v m (bts r)) {n : Nat} (hn : n ≤ m) :
    ∃ v', (∀ W, (Instr.sliceAt 51 v none (some (.int .i64 (n : Nat))) none).run Tryz.prog W = .ok v' W) ∧ Rd w B 1 v' n (bts (r.take n)) := by
  have hl := h.1
  simp only [bts_length, Nat.mul_one] at hl
  have hh := h
  obtain ⟨h1, h2, h3⟩ := h
  have hsz : ∀ W, (sizeOf (Tryz.prog.elem 51)).run Tryz.prog W = .ok 1 W := fun W => by kernel_rfl
  have hel : Tryz.prog.underlying 51 = some (.slice (Tryz.prog.elem 51)) := by kernel_rfl
  have hbt : ∀ (j : Nat) (u : Value), (bts (r.take n))[j]? = some u → (bts r)[j]? = some u := by
    intro j u hj
    rw [bts_get, List.getElem?_take] at hj
    split at hj
    · rw [bts_get]; exact hj
    · cases hj
  have hlen : (bts (r.take n)).length = n * 1 := by rw [bts_length, List.length_take]; omega
  rcases h3 with ⟨hv | ⟨a, hv⟩, h0⟩ | ⟨b, off, cap, hv, hc, hb, hx⟩
  · subst hv h0
    have hn0 : n = 0 := by omega
    subst hn0
    exact ⟨.slice none 0 0, fun W => by rw [run_sliceAt_slice W _ _ _ _ _ hel, run_slice_h W _ _ _ _ hel .i64 _ (by omega) (by omega), hsz]; rfl, hlen, by simp [maxLen], .inl ⟨.inl rfl, rfl⟩⟩
  · subst hv h0
    have hn0 : n = 0 := by omega
    subst hn0
    exact ⟨.slice (some a) 0 0, fun W => by rw [run_sliceAt_slice W _ _ _ _ _ hel, run_slice_h W _ _ _ _ hel .i64 _ (by omega) (by omega), hsz]; rfl, hlen, by simp [maxLen], .inl ⟨.inr ⟨a, rfl⟩, rfl⟩⟩
  · subst hv
    refine ⟨.slice (some ⟨b, off, none⟩) n cap, fun W => ?_, hlen, by omega, .inr ⟨b, off, cap, rfl, by omega, fun hp => hb (by rw [bts_length] at hp ⊢; rw [List.length_take] at hp; omega), fun j u hj => hx j u (hbt j u hj)⟩⟩
    rw [run_sliceAt_slice W _ _ _ _ _ hel, run_slice_h W _ _ _ _ hel .i64 _ (by omega) (by omega), hsz]
    show Result.ok _ W = _
    unfold sliced
    rw [Int.toNat_natCast, Nat.sub_zero, Nat.sub_zero]
    by_cases e : cap = 0
    · rw [if_pos e]
    · rw [if_neg e]
      show Result.ok (Value.slice (some ((⟨b, off, none⟩ : Addr).add (0 * 1))) _ _) W = _
      rw [Addr.add_mid]; rfl
theorem slice_from {w : World} {B : Nat → Prop} {v : Value} {m : Nat} {r : List UInt8} (h : Rd w B 1 v m (bts r)) {n : Nat} (hn : n ≤ m) :
    ∃ v', (∀ W, (Instr.sliceAt 51 v (some (.int .i64 (n : Nat))) none none).run Tryz.prog W = .ok v' W) ∧ Rd w B 1 v' (m - n) (bts (r.drop n)) := by
  have hl := h.1
  simp only [bts_length, Nat.mul_one] at hl
  obtain ⟨h1, h2, h3⟩ := h
  have hsz : ∀ W, (sizeOf (Tryz.prog.elem 51)).run Tryz.prog W = .ok 1 W := fun W => by kernel_rfl
  have hel : Tryz.prog.underlying 51 = some (.slice (Tryz.prog.elem 51)) := by kernel_rfl
  have hlen : (bts (r.drop n)).length = (m - n) * 1 := by rw [bts_length, List.length_drop]; omega
  rcases h3 with ⟨hv | ⟨a, hv⟩, h0⟩ | ⟨b, off, cap, hv, hc, hb, hx⟩
  · subst hv h0
    have hn0 : n = 0 := by omega
    subst hn0
    exact ⟨.slice none 0 0, fun W => by rw [run_sliceAt_slice W _ _ _ _ _ hel, run_slice_l W _ _ _ _ hel .i64 _ (by omega) (by omega), hsz]; rfl, hlen, by simp [maxLen], .inl ⟨.inl rfl, rfl⟩⟩
  · subst hv h0
    have hn0 : n = 0 := by omega
    subst hn0
    exact ⟨.slice (some a) 0 0, fun W => by rw [run_sliceAt_slice W _ _ _ _ _ hel, run_slice_l W _ _ _ _ hel .i64 _ (by omega) (by omega), hsz]; rfl, hlen, by simp [maxLen], .inl ⟨.inr ⟨a, rfl⟩, rfl⟩⟩
  · subst hv
    refine ⟨.slice (if cap = n then some ⟨b, off, none⟩ else some ⟨b, off + n, none⟩) (m - n) (cap - n), fun W => ?_, hlen, by omega, ?_⟩
    · rw [run_sliceAt_slice W _ _ _ _ _ hel, run_slice_l W _ _ _ _ hel .i64 _ (by omega) (by omega), hsz]
      show Result.ok _ W = _
      unfold sliced
      rw [Int.toNat_natCast]
      by_cases e : cap = n
      · rw [if_pos e, if_pos e]
      · rw [if_neg e, if_neg e]
        show Result.ok (Value.slice (some ((⟨b, off, none⟩ : Addr).add (n * 1))) _ _) W = _
        rw [Addr.add_mid, Nat.mul_one]
    · by_cases e : cap = n
      · rw [if_pos e]
        have : m - n = 0 := by omega
        exact .inl ⟨.inr ⟨⟨b, off, none⟩, by rw [this, show cap - n = 0 by omega]⟩, this⟩
      · rw [if_neg e]
        refine .inr ⟨b, off + n, cap - n, rfl, by omega, fun hp => hb (by rw [bts_length] at hp ⊢; rw [List.length_drop] at hp; omega), fun j u hj => ?_⟩
        rw [bts_get, List.getElem?_drop] at hj
        rw [Nat.add_assoc]
        exact hx (n + j) u (by rw [bts_get]; exact hj)
/-- a reader of bytes -/
def RdrAt (w : World) (g : Nat) (B : Nat → Prop) : RS → Prop
  | some r => ∃ v, w.heap[g]? = some (.cells #[v, .int .i64 0] 117 (0, 0)) ∧ Rd w B 1 v r.length (bts r)
  | none => ∃ v e, w.heap[g]? = some (.cells #[v, .int .i64 e] 117 (0, 0)) ∧ e ≠ 0 ∧ v.oneCell' = true
theorem RdrAt.kept {S : Nat → Prop} {w w' : World} {g : Nat} {B : Nat → Prop} (hk : Kept S w w') (hg : ¬ S g) (hB : ∀ b, b < w.heap.size → B b → ¬ S b) : ∀ {s : RS}, RdrAt w g B s → RdrAt w' g B s
  | some _, ⟨v, h1, h2⟩ => ⟨v, hk.obj h1 hg, h2.kept hk hB⟩
  | none, ⟨v, e, h1, h2⟩ => ⟨v, e, hk.obj h1 hg, h2⟩
theorem RdrAt.no {w w' : World} {g : Nat} {B : Nat → Prop} {s : RS} (h : RdrAt w g B s) (hk : Kept No w w') : RdrAt w' g B s := RdrAt.kept hk (not_no _) (fun _ _ _ => not_no _) h
def TakePost (g n : Nat) (B : Nat → Prop) (s : RS) (w : World) (e : Ending) (w' : World) : Prop := ∃ v, e = .returned v ∧ Rd w' (fun b => B b ∨ w.heap.size ≤ b) 1 v n (bts (takeF n s).1) ∧ RdrAt w' g B (takeF n s).2 ∧ Kept (fun b => b = g) w w'
theorem made_rd (w W : World) (hk : W.heap.size = w.heap.size) (n : Nat) (hn : n ≤ 1000) (B : Nat → Prop) : Rd (W.alloc (.cells (madeCells #[.int .u8 0] n) 5)) (fun b => B b ∨ w.heap.size ≤ b) 1 (.slice (some ⟨W.heap.size, 0, none⟩) n n) n (bts (List.replicate n 0)) := by
  refine ⟨by simp, by simp [maxLen]; omega, .inr ⟨W.heap.size, 0, n, rfl, Nat.le_refl _, fun _ => .inr (by omega), fun j u hj => ?_⟩⟩
  rw [Nat.zero_add, obj_cell (heap_alloc_new W _)]
  rw [bts_get] at hj
  by_cases hjn : j < n
  · rw [List.getElem?_replicate, if_pos hjn] at hj
    rw [← Array.getElem?_toList, toList_madeCells_one, List.getElem?_replicate, if_pos hjn]
    exact hj
  · rw [List.getElem?_replicate, if_neg hjn] at hj
    cases hj
set_option maxRecDepth 100000 in
set_option maxHeartbeats 1600000 in
theorem take_any {g n : Nat} (hn : n ≤ 1000) {B : Nat → Prop} (hB : ∀ b, B b → b ≠ g) : ∀ {s : RS} {w : World}, RdrAt w g B s → Calls Tryz.prog 65 #[.pointer (some ⟨g, 0, none⟩), .int .i64 (n : Nat)] w (TakePost g n B s w)
  | none, w, h => by
    obtain ⟨v, e, hg, he, hv⟩ := h
    have c0 := obj_cell hg 0
    have c1 := obj_cell hg 1
    have d1 : (e == 0) = false := by simpa using he
    have d2 : (e != 0) = true := by simpa using he
    have hmk := run_make_row' (P := Tryz.prog) 51 5 (.int .u8 0) 1 Tryz.underlying51 (by kernel_rfl) rfl .i64 .i64 n (by omega) (by omega)
    have HG := Lib.hid hg
    have HE := Lib.hid he
    have HV := Lib.hid hv
    have HM := Lib.hid (made_rd w w rfl n hn B)
    clear hg he hv hB hn
    go_enter Tryz.func65, Tryz.ntmps65
    go_wp2_with fail
    go_ret
    exact ⟨_, rfl, HM.out, ⟨v, e, obj_alloc HG.out _, HE.out, HV.out⟩, (Kept.refl _ w).alloc _⟩
  | some r, w, h => by
    obtain ⟨v, hg, hr⟩ := h
    by_cases hlt : r.length < n
    · have hT : takeF n (some r) = (List.replicate n 0, none) := by unfold takeF; simp only; rw [if_pos hlt]
      obtain ⟨ad, cap, rfl⟩ := rd_slice hr
      have c0 := obj_cell hg 0
      have c1 := obj_cell hg 1
      have f1 : w.frozen? ⟨g, 1, none⟩ = false := obj_free hg 1
      have hmk := run_make_row' (P := Tryz.prog) 51 5 (.int .u8 0) 1 Tryz.underlying51 (by kernel_rfl) rfl .i64 .i64 n (by omega) (by omega)
      have HG := Lib.hid hg
      have HT := Lib.hid hT
      obtain ⟨m, hm⟩ : ∃ m, r.length = m := ⟨_, rfl⟩
      rw [hm] at c0 hlt
      have HM := Lib.hid (made_rd w (w.setCell ⟨g, 1, none⟩ (.int .i64 4)) (by simp) n hn B)
      have HS := Lib.hid (obj_store hg 1 (.int .i64 4))
      have d1 : decide (m < n) = true := decide_eq_true hlt
      clear hg hr hT hB hn hm hlt
      go_enter Tryz.func65, Tryz.ntmps65
      go_wp2_with fail
      go_ret
      refine ⟨_, rfl, ?_, ?_, ((Kept.refl (fun b => b = g) w).setCell (p := ⟨g, 1, none⟩) (fun _ => rfl) _).alloc _⟩
      · rw [HT.out]; have := HM.out; simpa using this
      · rw [HT.out]; exact ⟨_, 4, obj_alloc HS.out _, by decide, rfl⟩
    · have hT : takeF n (some r) = (r.take n, some (r.drop n)) := by unfold takeF; simp only; rw [if_neg hlt]
      obtain ⟨v1, hs1, hr1⟩ := slice_to hr (n := n) (by omega)
      obtain ⟨v2, hs2, hr2⟩ := slice_from hr (n := n) (by omega)
      obtain ⟨ad1, cap1, rfl⟩ := rd_slice hr1
      obtain ⟨ad2, cap2, rfl⟩ := rd_slice hr2
      obtain ⟨ad, cap, rfl⟩ := rd_slice hr
      have c0 := obj_cell hg 0
      have c1 := obj_cell hg 1
      have f0 : w.frozen? ⟨g, 0, none⟩ = false := obj_free hg 0
      have HT := Lib.hid hT
      have hBk : ∀ b, b < w.heap.size → B b → ¬ (b = g) := fun b _ h => hB b h
      have hk : Kept (fun b => b = g) w (w.setCell ⟨g, 0, none⟩ (.slice ad2 (r.length - n) cap2)) := (Kept.refl (fun b => b = g) w).setCell (p := ⟨g, 0, none⟩) (fun _ => rfl) _
      have HR1 := Lib.hid ((hr1.kept hk hBk).mono (C := fun b => B b ∨ w.heap.size ≤ b) fun b _ h => .inl h)
      have HR2 := Lib.hid (hr2.kept hk hBk)
      have HS := Lib.hid (obj_store hg 0 (.slice ad2 (r.length - n) cap2))
      have HK := Lib.hid hk
      have HLD := Lib.hid (show (r.drop n).length = r.length - n from List.length_drop ..)
      obtain ⟨m, hm⟩ : ∃ m, r.length = m := ⟨_, rfl⟩
      rw [hm] at c0 hlt hs1 hs2 HR1 HR2 HS HK HLD
      have d1 : decide (m < n) = false := decide_eq_false hlt
      clear hg hr hT hB hm hlt hr1 hr2 hk hBk hn
      go_enter Tryz.func65, Tryz.ntmps65
      go_wp2_with fail
      go_ret
      refine ⟨_, rfl, ?_, ?_, HK.out⟩
      · rw [HT.out]; exact HR1.out
      · rw [HT.out]; exact ⟨_, HS.out, by rw [HLD.out]; exact HR2.out⟩
end Go.Proofs.YtclgoilfclmibaaGreatDoor
