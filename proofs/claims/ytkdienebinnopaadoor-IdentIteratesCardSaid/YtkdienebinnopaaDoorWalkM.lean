/-
  Ident: the reference's calls.
-/
import Derived.Test.YtkdienebinnopaaDoorWalkL
namespace Go.Proofs.YtkdienebinnopaaDoor
open Go.RowKit Go.Zn Go.Shelf
attribute [local go_sem] Oper.semAt_some

theorem rnew_bad (n : Int) (w : World) (hn : n < 1 ∨ 4096 < n) : Calls Tryd.prog 17 #[.int .i64 n] w fun e w' => e = .returned (.tuple #[.slice none 0 0, .int .i64 2]) ∧ w = w' := by
  by_cases h : n < 1
  · go_enter Tryd.func17, Tryd.ntmps17
    go_wp2
    go_ret2
    exact ⟨rfl, rfl⟩
  · have h2 : 4096 < n := by omega
    go_enter Tryd.func17, Tryd.ntmps17
    go_wp2
    go_ret2
    exact ⟨rfl, rfl⟩
theorem rnew_ok (n : Nat) (w : World) (h1 : 1 ≤ n) (h2 : n ≤ 4096) : Calls Tryd.prog 17 #[.int .i64 (n : Nat)] w fun e w' =>
    ∃ v, e = .returned (.tuple #[v, .int .i64 0]) ∧ Rf w' (fun k => w.heap.size ≤ k) v n (fun _ => false) ∧ Kept No w w' := by
  have hb1 : (1 : Int) ≤ (n : Int) := by omega
  have hb2 : (n : Int) ≤ 4096 := by omega
  have hmk := run_make_row' (P := Tryd.prog) 41 4 (.bool false) 1 Tryd.underlying41 (by kernel_rfl) rfl .i64 .i64 n (by omega) (by omega)
  go_enter Tryd.func17, Tryd.ntmps17
  go_wp2_with fail
  go_ret2
  refine ⟨_, rfl, ⟨by rw [bls_length]; omega, by unfold maxLen; omega, .inr ⟨_, _, _, rfl, Nat.le_refl _, fun _ => Nat.le_refl _, fun j u hj => ?_⟩⟩, (Kept.refl No w).alloc _⟩
  have hjn : j < n := by have := (List.getElem?_eq_some_iff.1 hj).1; simpa [bls] using this
  rw [bls_get _ n j hjn] at hj
  rw [obj_cell (heap_alloc_new w _), Nat.zero_add, ← Array.getElem?_toList, toList_madeCells_one, List.getElem?_replicate, if_pos hjn]
  exact hj
theorem rclaim_any {w : World} {B : Nat → Prop} {v : Value} {n : Nat} {t : Nat → Bool} (h : Rf w B v n t) (hn : n ≤ 4096) (id : Int) :
    Calls Tryd.prog 29 #[v, .int .i64 id] w fun e w' => ∃ v', e = .returned (.tuple #[v', .int .i64 (claimC t n id)]) ∧ Rf w' (Bn B w) v' n (claimT t n id) ∧ Kept No w w' := by
  by_cases hr : 1 ≤ id ∧ id ≤ n
  · obtain ⟨h1, h2⟩ := hr
    obtain ⟨i, hid⟩ : ∃ i : Nat, id = (i + 1 : Nat) := ⟨id.toNat - 1, by omega⟩
    have hi : i < n := by omega
    have e : id.toNat = i + 1 := by omega
    obtain ⟨b, off, cap, rfl, c0⟩ := h.at hi
    have ei : i = id.toNat - 1 := by omega
    have d1 : decide ((n : Int) < id) = false := by simp; omega
    have hc4 : id ≤ 4096 := by omega
    cases ht : t (i + 1)
    · have hc : claimC t n id = 0 := by unfold claimC; rw [if_pos ⟨h1, h2⟩, e, ht]; rfl
      have hT : claimT t n id = put t (i + 1) true := by unfold claimT; rw [if_pos hc, e]
      rw [hc, hT]
      rw [ht, ei] at c0
      have H := Lib.hid h
      have HID := Lib.hid hid
      have HI := Lib.hid hi
      clear h hc hT ht e hid hi ei
      go_enter Tryd.func29, Tryd.ntmps29
      go_wp2_with fail
      refine (with_any H.out i id HID.out HI.out hn true).mono ?_
      rintro e w' ⟨v', rfl, hv, hk⟩
      obtain ⟨ad2, cap2, rfl⟩ := rd_slice hv
      have HV := Lib.hid hv
      have HK := Lib.hid hk
      clear hv hk
      go_wp2_with fail
      go_ret2
      exact ⟨_, rfl, HV.out, HK.out⟩
    · have hc : claimC t n id = 11 := by unfold claimC; rw [if_pos ⟨h1, h2⟩, e, ht]; rfl
      have hT : claimT t n id = t := by unfold claimT; rw [hc]; rfl
      rw [hc, hT]
      rw [ht, ei] at c0
      have H := Lib.hid h
      clear h hc hT ht e hid hi ei
      go_enter Tryd.func29, Tryd.ntmps29
      go_wp2_with fail
      go_ret2
      exact ⟨_, rfl, H.out.old _, Kept.refl _ _⟩
  · have hc : claimC t n id = 2 := by unfold claimC; rw [if_neg hr]
    have hT : claimT t n id = t := by unfold claimT; rw [hc]; rfl
    rw [hc, hT]
    obtain ⟨ad, cap, rfl⟩ := rd_slice h
    have H := Lib.hid h
    clear h hc hT
    by_cases h1 : id < 1
    · go_enter Tryd.func29, Tryd.ntmps29
      go_wp2_with fail
      go_ret2
      exact ⟨_, rfl, H.out.old _, Kept.refl _ _⟩
    · have d1 : decide ((n : Int) < id) = true := by simp; omega
      clear hr
      go_enter Tryd.func29, Tryd.ntmps29
      go_wp2_with fail
      go_ret2
      exact ⟨_, rfl, H.out.old _, Kept.refl _ _⟩
theorem rfree_any {w : World} {B : Nat → Prop} {v : Value} {n : Nat} {t : Nat → Bool} (h : Rf w B v n t) (hn : n ≤ 4096) (id : Int) :
    Calls Tryd.prog 30 #[v, .int .i64 id] w fun e w' => ∃ v', e = .returned (.tuple #[v', .int .i64 (freeC t n id)]) ∧ Rf w' (Bn B w) v' n (freeT t n id) ∧ Kept No w w' := by
  by_cases hr : 1 ≤ id ∧ id ≤ n
  · obtain ⟨h1, h2⟩ := hr
    obtain ⟨i, hid⟩ : ∃ i : Nat, id = (i + 1 : Nat) := ⟨id.toNat - 1, by omega⟩
    have hi : i < n := by omega
    have e : id.toNat = i + 1 := by omega
    obtain ⟨b, off, cap, rfl, c0⟩ := h.at hi
    have ei : i = id.toNat - 1 := by omega
    have d1 : decide ((n : Int) < id) = false := by simp; omega
    have hc4 : id ≤ 4096 := by omega
    cases ht : t (i + 1)
    · have hc : freeC t n id = 9 := by unfold freeC; rw [if_pos ⟨h1, h2⟩, e, ht]; rfl
      have hT : freeT t n id = t := by unfold freeT; rw [hc]; rfl
      rw [hc, hT]
      rw [ht, ei] at c0
      have H := Lib.hid h
      clear h hc hT ht e hid hi ei
      go_enter Tryd.func30, Tryd.ntmps30
      go_wp2_with fail
      go_ret2
      exact ⟨_, rfl, H.out.old _, Kept.refl _ _⟩
    · have hc : freeC t n id = 0 := by unfold freeC; rw [if_pos ⟨h1, h2⟩, e, ht]; rfl
      have hT : freeT t n id = put t (i + 1) false := by unfold freeT; rw [if_pos hc, e]
      rw [hc, hT]
      rw [ht, ei] at c0
      have H := Lib.hid h
      have HID := Lib.hid hid
      have HI := Lib.hid hi
      clear h hc hT ht e hid hi ei
      go_enter Tryd.func30, Tryd.ntmps30
      go_wp2_with fail
      refine (with_any H.out i id HID.out HI.out hn false).mono ?_
      rintro e w' ⟨v', rfl, hv, hk⟩
      obtain ⟨ad2, cap2, rfl⟩ := rd_slice hv
      have HV := Lib.hid hv
      have HK := Lib.hid hk
      clear hv hk
      go_wp2_with fail
      go_ret2
      exact ⟨_, rfl, HV.out, HK.out⟩
  · have hc : freeC t n id = 2 := by unfold freeC; rw [if_neg hr]
    have hT : freeT t n id = t := by unfold freeT; rw [hc]; rfl
    rw [hc, hT]
    obtain ⟨ad, cap, rfl⟩ := rd_slice h
    have H := Lib.hid h
    clear h hc hT
    by_cases h1 : id < 1
    · go_enter Tryd.func30, Tryd.ntmps30
      go_wp2_with fail
      go_ret2
      exact ⟨_, rfl, H.out.old _, Kept.refl _ _⟩
    · have d1 : decide ((n : Int) < id) = true := by simp; omega
      clear hr
      go_enter Tryd.func30, Tryd.ntmps30
      go_wp2_with fail
      go_ret2
      exact ⟨_, rfl, H.out.old _, Kept.refl _ _⟩
theorem rhas_any {w : World} {B : Nat → Prop} {v : Value} {n : Nat} {t : Nat → Bool} (h : Rf w B v n t) (ho : ∀ m, t m = true → 1 ≤ m ∧ m ≤ n) (id : Int) :
    Calls Tryd.prog 31 #[v, .int .i64 id] w fun e w' => e = .returned (.bool (has t id)) ∧ w = w' := by
  by_cases hr : 1 ≤ id ∧ id ≤ n
  · obtain ⟨h1, h2⟩ := hr
    obtain ⟨i, hid⟩ : ∃ i : Nat, id = (i + 1 : Nat) := ⟨id.toNat - 1, by omega⟩
    have hi : i < n := by omega
    have e : id.toNat = i + 1 := by omega
    obtain ⟨b, off, cap, rfl, c0⟩ := h.at hi
    have ei : i = id.toNat - 1 := by omega
    have d1 : decide (id ≤ (n : Int)) = true := by simp; omega
    have hc4 : id ≤ 9223372036854775807 := by have := h.2.1; unfold maxLen at this; omega
    have hh : has t id = t (i + 1) := by unfold has; rw [e]; simp [h1]
    rw [hh]
    rw [ei] at c0
    obtain ⟨y, hy⟩ : ∃ y, t (i + 1) = y := ⟨_, rfl⟩
    rw [← ei, hy] at c0
    rw [hy]
    rw [ei] at c0
    clear h hh hy e hid hi ei
    go_enter Tryd.func31, Tryd.ntmps31
    go_wp2_with fail
    go_ret
    exact ⟨rfl, rfl⟩
  · have hh : has t id = false := by
      unfold has
      by_cases h1 : 1 ≤ id
      · cases ht : t id.toNat
        · simp
        · have := ho _ ht; omega
      · simp [h1]
    rw [hh]
    obtain ⟨ad, cap, rfl⟩ := rd_slice h
    by_cases h1 : 1 ≤ id
    · have d1 : decide (id ≤ (n : Int)) = false := by simp; omega
      clear h hh hr
      go_enter Tryd.func31, Tryd.ntmps31
      go_wp2_with fail
      go_ret
      exact ⟨rfl, rfl⟩
    · clear h hh hr
      go_enter Tryd.func31, Tryd.ntmps31
      go_wp2_with fail
      go_ret
      exact ⟨rfl, rfl⟩
def RTakePost (B : Nat → Prop) (n : Nat) (t : Nat → Bool) (w : World) (e : Ending) (w' : World) : Prop :=
  (∃ (id : Nat) (v' : Value), LeastFree t n id ∧ e = .returned (.tuple #[v', .int .i64 (id : Nat), .int .i64 0]) ∧ Rf w' (Bn B w) v' n (put t id true) ∧ Kept No w w') ∨
  (AllTaken t n ∧ ∃ v', e = .returned (.tuple #[v', .int .i64 0, .int .i64 7]) ∧ Rf w' (Bn B w) v' n t ∧ Kept No w w')
def RRel (t : Nat → Bool) (n : Nat) (w : World) (i : Value) (wr : World) : Prop := ∃ j : Nat, i = .int .i64 (j : Nat) ∧ 1 ≤ j ∧ j ≤ n + 1 ∧ (∀ k, 1 ≤ k → k < j → t k = true) ∧ Kept No w wr
set_option maxRecDepth 100000 in
set_option maxHeartbeats 1600000 in
theorem rtake_any {w : World} {B : Nat → Prop} {v : Value} {n : Nat} {t : Nat → Bool} (h : Rf w B v n t) (hn : n ≤ 4096) : Calls Tryd.prog 28 #[v] w (RTakePost B n t w) := by
  obtain ⟨ad, cap, rfl⟩ := rd_slice h
  have H := Lib.hid h
  clear h
  go_enter Tryd.func28, Tryd.ntmps28
  go_wp2_with fail
  go_loopw [5] (fun i wr => RRel t n w i wr) (fun i _ => n + 1 - (intOf i).toNat)
  case atStart => exact ⟨1, rfl, Nat.le_refl _, by omega, fun k h1 h2 => by omega, Kept.refl _ _⟩
  case round =>
    obtain ⟨j, rfl, hj1, hj2, hall, hk⟩ := hrel
    have HALL := Lib.hid hall
    have HJ1 := Lib.hid hj1
    have HJ2 := Lib.hid hj2
    have HK := Lib.hid hk
    have hji : (j : Int) ≤ 4097 := by omega
    have hji1 : (1 : Int) ≤ (j : Int) := by omega
    clear hall hj1 hj2 hk
    by_cases hlt : j ≤ n
    · have d1 : decide (j ≤ n) = true := by simp; exact hlt
      have HLT := Lib.hid hlt
      have hjn : (j : Int) ≤ (n : Int) := by omega
      have HR := Lib.hid (H.out.no HK.out)
      obtain ⟨b, off, cap', hv, c0⟩ := HR.out.at (i := j - 1) (by have := HJ1.out; omega)
      cases hv
      have ej : j - 1 + 1 = j := by have := HJ1.out; omega
      rw [ej] at c0
      clear hlt ej
      cases ht : t j
      · rw [ht] at c0
        have HT := Lib.hid ht
        clear ht
        go_wp2_with fail
        refine (with_any HR.out (j - 1) (j : Nat) (by have := HJ1.out; omega) (by have := HJ1.out; have := HLT.out; omega) hn true).mono ?_
        rintro e w' ⟨v', rfl, hv, hk⟩
        obtain ⟨ad2, cap2, rfl⟩ := rd_slice hv
        have HV := Lib.hid hv
        have HK2 := Lib.hid hk
        clear hv hk
        go_wp2_with fail
        go_ret3
        have q0 := HJ1.out
        have hv := HV.out
        rw [show j - 1 + 1 = j by omega] at hv
        have hsz := HK.out.size
        exact .inl ⟨j, _, ⟨HJ1.out, HLT.out, HT.out, HALL.out⟩, rfl, Rd.mono hv (fun _ _ e => e.elim .inl (fun e => .inr (by omega))), HK.out.and HK2.out⟩
      · rw [ht] at c0
        have HT := Lib.hid ht
        clear ht
        go_wp2_with fail
        have q1 := HLT.out
        exact ⟨⟨j + 1, by go_num, by omega, by omega, fun k h1 h2 => (Nat.lt_or_ge k j).elim (fun h => HALL.out k h1 h) (fun h => by rw [show k = j by omega]; exact HT.out), HK.out⟩, by simp [intOf]; omega⟩
    · obtain rfl : j = n + 1 := by have := HJ2.out; omega
      have d1 : decide (n + 1 ≤ n) = false := by simp
      clear hlt
      go_wp2_with fail
      go_ret3
      exact .inr ⟨fun k h1 h2 => HALL.out k h1 (by omega), _, rfl, (H.out.no HK.out).old _, HK.out⟩
def RARel (t : Nat → Bool) (n base : Nat) (w : World) (l i : Value) (wr : World) : Prop :=
  ∃ j : Nat, i = .int .i64 (j : Nat) ∧ 1 ≤ j ∧ j ≤ n + 1 ∧ wr.ownsRow base 3 1 l (idl t (j - 1)).length (ints (idl t (j - 1))) ∧ Kept No w wr
set_option maxRecDepth 100000 in
set_option maxHeartbeats 1600000 in
theorem rall_any {w : World} {B : Nat → Prop} {v : Value} {n : Nat} {t : Nat → Bool} (h : Rf w B v n t) (hn : n ≤ 4096) : Calls Tryd.prog 20 #[v] w fun e w' =>
    ∃ v', e = .returned v' ∧ Rd w' (fun k => w.heap.size ≤ k) 1 v' (idl t n).length (ints (idl t n)) ∧ Kept No w w' := by
  obtain ⟨ad, cap, rfl⟩ := rd_slice h
  have H := Lib.hid h
  clear h
  go_enter Tryd.func20, Tryd.ntmps20
  go_wp2_with fail
  go_loopw [3, 4] (fun l i wr => RARel t n w.heap.size w l i wr) (fun _ i _ => n + 1 - (intOf i).toNat)
  case atStart => exact ⟨1, rfl, Nat.le_refl _, by omega, World.ownsRow_nil _ _ _ _, Kept.refl _ _⟩
  case round =>
    obtain ⟨j, rfl, hj1, hj2, hown, hk⟩ := hrel
    obtain ⟨p, hp⟩ : ∃ p, j = p + 1 := ⟨j - 1, by omega⟩
    have hp1 : j - 1 = p := by omega
    rw [hp1] at hown
    obtain ⟨lad, lcap, rfl⟩ := owned_slice hown
    obtain ⟨m, hm⟩ : ∃ m, (idl t p).length = m := ⟨_, rfl⟩
    have hmj : m ≤ p := by rw [← hm, idl_length]; exact cnt_le t p
    rw [hm] at hown ⊢
    have HW := Lib.hid hown
    have HK := Lib.hid hk
    have HN := Lib.hid hm
    have HP := Lib.hid hp
    have hnn : m ≤ 4096 := by omega
    have hj0 : (1 : Int) ≤ (j : Int) := by omega
    have hjm : (j : Int) ≤ 4097 := by omega
    have HJ1 := Lib.hid hj1
    have HJ2 := Lib.hid hj2
    clear hown hk hm hp hp1 hmj hj1 hj2
    by_cases hlt : j ≤ n
    · have d1 : decide (j ≤ n) = true := by simp; exact hlt
      have HJM := Lib.hid hlt
      have hjn : (j : Int) ≤ (n : Int) := by omega
      have HR := Lib.hid (H.out.no HK.out)
      obtain ⟨b, off, cap', hv, c0⟩ := HR.out.at (i := j - 1) (by have := HJ1.out; omega)
      cases hv
      have ej : j - 1 + 1 = j := by have := HJ1.out; omega
      rw [ej] at c0
      clear hlt ej
      cases hr : t j
      · rw [hr] at c0
        have HT := Lib.hid hr
        clear hr
        go_wp2_with fail
        have hj3 := HJM.out
        refine ⟨⟨j + 1, by go_num, by omega, by omega, ?_, HK.out⟩, by simp [intOf]; omega⟩
        have e : j + 1 - 1 = j := by omega
        rw [e, idl_step t HP.out, HT.out]
        simp only [Bool.false_eq_true, if_false, List.append_nil]
        rw [HN.out]
        exact HW.out
      · rw [hr] at c0
        have HR := Lib.hid hr
        clear hr
        have HO1 := Lib.hid (HW.out.alloc (.cells #[.int .i64 (j : Nat)] 3))
        have HS1 := Lib.hid (show w.heap.size ≤ (wr.alloc (.cells #[.int .i64 (j : Nat)] 3)).heap.size by have := HK.out.size; simp; omega)
        have HB1 := Lib.hid (show (m + 1) * 8 ≤ 140737488355328 by omega)
        go_wp2_with (at_builtin; refine wpList_append_rd rfl rfl rfl rfl ei22 HO1.out (rd_new1 wr (.int .i64 (j : Nat)) 3) (by intro u hu; simp at hu; rw [hu]; rfl) HB1.out HS1.out ?_; intro v2 w2 hown2 hg2 _; obtain ⟨ad2, cap2, rfl⟩ := owned_slice hown2; have HO2 := Lib.hid hown2; have HK2 := Lib.hid (show Kept No w w2 from ((HK.out).alloc _).grown hg2 (fun k e hlt => by have := (HO1.out.lt k e).1; omega)); clear hown2 hg2)
        have hj3 := HJM.out
        refine ⟨⟨j + 1, by go_num, by omega, by omega, ?_, HK2.out⟩, by simp [intOf]; omega⟩
        have e : j + 1 - 1 = j := by omega
        rw [e, idl_step t HP.out, HR.out]
        simp only [if_true]
        have e2 : (idl t p ++ [j]).length = m + 1 := by rw [List.length_append, HN.out]; rfl
        rw [e2, ints_snoc]
        exact HO2.out
    · have hjm2 : p = n := by have := HP.out; have := HJ2.out; omega
      have d1 : decide (j ≤ n) = false := by simp; exact Nat.lt_of_not_le hlt
      have HJM := Lib.hid hjm2
      clear hlt hjm2
      go_wp2_with fail
      go_ret
      have ho := HW.out
      rw [HJM.out] at ho
      have hn2 : (idl t n).length = m := by rw [← HJM.out]; exact HN.out
      refine ⟨_, rfl, ?_, HK.out⟩
      rw [hn2]
      exact rd_owned ho
end Go.Proofs.YtkdienebinnopaaDoor
