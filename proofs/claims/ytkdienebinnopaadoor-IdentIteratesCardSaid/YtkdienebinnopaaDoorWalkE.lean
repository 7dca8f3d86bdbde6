/-
  Ident: the list of ids, the iterator over it, Same, all.
-/
import Derived.Test.YtkdienebinnopaaDoorWalkD
import Derived.RangeFuncNested
import Derived.RangeFuncBound
import Derived.RangeFuncCalls
import Derived.RangeFuncLeaves
import Derived.RangeFuncBox
import Derived.Shelf.Abstract
import Derived.Shelf.RegionOpen
import Derived.OwnWalkIn
import Derived.TacticsInMore
import Derived.LoopNIn
import Derived.LoopIn
import Derived.Maps.AppendAt
namespace Go.Proofs.YtkdienebinnopaaDoor
open Go.RowKit Go.Zn Go.Shelf
attribute [local go_sem] Oper.semAt_some

/-- the ids that are taken, up to n -/
def idl (t : Nat → Bool) : Nat → List Nat
  | 0 => []
  | n + 1 => idl t n ++ (if t (n + 1) then [n + 1] else [])
theorem idl_length (t : Nat → Bool) : ∀ n, (idl t n).length = cnt t n
  | 0 => rfl
  | n + 1 => by
    show (idl t n ++ (if t (n + 1) then [n + 1] else [])).length = cnt t n + (t (n + 1)).toNat
    rw [List.length_append, idl_length t n]
    cases t (n + 1) <;> rfl
def ints (l : List Nat) : List Value := l.map fun n => Value.int .i64 (n : Nat)
theorem ints_one (l : List Nat) : ∀ u ∈ ints l, u.oneCell' = true := by
  intro u hu
  obtain ⟨b, _, rfl⟩ := List.mem_map.1 hu
  rfl
@[simp] theorem ints_length (l : List Nat) : (ints l).length = l.length := by simp [ints]
theorem ints_get (l : List Nat) (j : Nat) (h : j < l.length) : (ints l)[j]? = some (.int .i64 (l[j] : Nat)) := by simp [ints, h]
theorem ei22 : SliceOf Tryd.prog 22 3 1 8 (.int .i64 0) := ⟨Tryd.underlying22, info_parts (by kernel_rfl), rfl, by decide, by decide⟩
def SameRel (n : Nat) (w : World) (i : Value) (wr : World) : Prop := ∃ j q : Nat, i = .int .i64 (j : Nat) ∧ j ≤ n ∧ wr = w.drewN q
set_option maxRecDepth 100000 in
set_option maxHeartbeats 800000 in
theorem same_any (w : World) (B C : Nat → Prop) (v v' : Value) (l : List Nat) (n : Nat) (hl : l.length = n) (h : Rd w B 1 v n (ints l)) (h' : Rd w C 1 v' n (ints l)) (hn : n ≤ 5000) :
    Calls Tryd.prog 33 #[v, v'] w fun e w' => e = .returned (.bool true) ∧ ∃ q, w' = w.drewN q := by
  obtain ⟨ad, cap, rfl⟩ := rd_slice h
  obtain ⟨ad', cap', rfl⟩ := rd_slice h'
  have HL := Lib.hid hl
  have H := Lib.hid h
  have H' := Lib.hid h'
  clear hl h h'
  go_enter Tryd.func33, Tryd.ntmps33
  go_wp2_with fail
  go_loopw [5] (fun i wr => SameRel n w i wr) (fun i _ => n - (intOf i).toNat)
  case atStart => exact ⟨0, 0, rfl, Nat.zero_le _, rfl⟩
  case round =>
    obtain ⟨j, q, rfl, hj, rfl⟩ := hrel
    by_cases hlt : j < n
    · have d1 : decide (j < n) = true := by simp; exact hlt
      have hjl : j < l.length := by rw [HL.out]; exact hlt
      obtain ⟨_, _, ⟨_, h0⟩ | ⟨b, off, c1, hv, _, _, hc⟩⟩ := H.out
      · omega
      obtain ⟨_, _, ⟨_, h0⟩ | ⟨b', off', c1', hv', _, _, hc'⟩⟩ := H'.out
      · omega
      have g1 := hc j _ (ints_get l j hjl)
      have g2 := hc' j _ (ints_get l j hjl)
      cases hv
      cases hv'
      obtain ⟨y, hy⟩ : ∃ y : Int, ((l[j] : Nat) : Int) = y := ⟨_, rfl⟩
      rw [hy] at g1 g2
      have dy : (y != y) = false := by simp
      have HLT := Lib.hid hlt
      have hj0 : (0 : Int) ≤ (j : Int) := by omega
      have hj1 : (j : Int) < (n : Int) := by omega
      clear hc hc' hlt hy hj hjl
      go_wp2_with fail
      go_quiet (fail)
      go_wp2_with fail
      have hj2 := HLT.out
      exact ⟨⟨j + 1, _, by go_num, by omega, rfl⟩, by simp [intOf]; omega⟩
    · have d1 : decide (j < n) = false := by simp; omega
      clear hlt hj
      go_wp2_with fail
      go_ret
      exact ⟨rfl, _, rfl⟩
theorem has_kept {w : World} {b tb most : Nat} {t : Nat → Bool} (h : Ids w b tb most t) (id : Int) :
    Calls Tryd.prog 16 #[.pointer (some ⟨b, 0, none⟩), .int .i64 id] w fun e w' => e = .returned (.bool (has t id)) ∧ Kept No w w' := by
  refine (has_any h id).mono ?_
  rintro e w' ⟨q, he, rfl⟩
  exact ⟨he, (Kept.refl No w).drewN q⟩
theorem has_nat (t : Nat → Bool) (j : Nat) (h : 1 ≤ j) : has t ((j : Nat) : Int) = t j := by
  unfold has
  have e1 : ((j : Nat) : Int).toNat = j := by omega
  rw [e1]
  have : (1 : Int) ≤ (j : Int) := by omega
  simp [this]
/-- the list, as the iterator's own loop gathers it -/
def ARel (t : Nat → Bool) (most base : Nat) (w : World) (l i : Value) (wr : World) : Prop :=
  ∃ j : Nat, i = .int .i64 (j : Nat) ∧ 1 ≤ j ∧ j ≤ most + 1 ∧ wr.ownsRow base 3 1 l (idl t (j - 1)).length (ints (idl t (j - 1))) ∧ Kept No w wr
def AllPost (t : Nat → Bool) (most : Nat) (w : World) (e : Ending) (w' : World) : Prop :=
  ∃ v bx, e = .returned (.func (.func 37) #[] #[.pointer (some ⟨bx, 0, none⟩)]) ∧ w.heap.size ≤ bx ∧ w'.cell? ⟨bx, 0, none⟩ = some v ∧ Rd w' (fun i => w.heap.size ≤ i) 1 v (idl t most).length (ints (idl t most)) ∧ Kept No w w'
theorem idl_step (t : Nat → Bool) {j p : Nat} (h : j = p + 1) : idl t j = idl t p ++ (if t j then [j] else []) := by subst h; rfl
theorem values_any (ad : Option Addr) (n cap : Nat) (w : World) : Calls Tryd.prog 32 #[.slice ad n cap] w fun e w' => e = .returned (.func (.func 37) #[] #[.pointer (some ⟨w.heap.size, 0, none⟩)]) ∧ w' = w.alloc (.cells #[.slice ad n cap] 22) := by
  go_enter Tryd.func32, Tryd.ntmps32
  go_wp2_with fail
  go_ret
  exact ⟨rfl, rfl⟩
set_option maxRecDepth 100000 in
set_option maxHeartbeats 1600000 in
theorem allf_any {w : World} {b tb most : Nat} {t : Nat → Bool} (h : Ids w b tb most t) : Calls Tryd.prog 21 #[.pointer (some ⟨b, 0, none⟩)] w (AllPost t most w) := by
  have hm2 := h.m2
  have H := Lib.hid h
  clear h
  go_enter Tryd.func21, Tryd.ntmps21
  go_wp2_with fail
  refine (zero_no H.out).mono ?_
  rintro e w' ⟨rfl, rfl⟩
  go_wp2_with fail
  go_loopw [3, 4] (fun l i wr => ARel t most w.heap.size w l i wr) (fun _ i _ => most + 1 - (intOf i).toNat)
  case atStart => exact ⟨1, rfl, Nat.le_refl _, by omega, World.ownsRow_nil _ _ _ _, Kept.refl _ _⟩
  case round =>
    obtain ⟨j, rfl, hj1, hj2, hown, hk⟩ := hrel
    have HI := Lib.hid (H.out.no hk)
    have c0 := HI.out.c0
    obtain ⟨p, hp⟩ : ∃ p, j = p + 1 := ⟨j - 1, by omega⟩
    have hp1 : j - 1 = p := by omega
    rw [hp1] at hown
    obtain ⟨ad, cap, rfl⟩ := owned_slice hown
    obtain ⟨n, hn⟩ : ∃ n, (idl t p).length = n := ⟨_, rfl⟩
    have hnj : n ≤ p := by rw [← hn, idl_length]; exact cnt_le t p
    rw [hn] at hown ⊢
    have HW := Lib.hid hown
    have HK := Lib.hid hk
    have HN := Lib.hid hn
    have HP := Lib.hid hp
    have hnn : n ≤ 4096 := by omega
    have hj0 : (1 : Int) ≤ (j : Int) := by omega
    have hjm : (j : Int) ≤ 4097 := by omega
    clear hown hk hn hp hp1 hnj
    by_cases hlt : j ≤ most
    · have d1 : decide (j ≤ most) = true := by simp; exact hlt
      have HJM := Lib.hid hlt
      have HJ1 := Lib.hid hj1
      clear hlt
      cases hr : t j
      · have HR := Lib.hid hr
        clear hr
        go_wp2_with fail
        refine (has_kept HI.out (j : Nat)).mono ?_
        rintro e w1 ⟨rfl, hk1⟩
        rw [has_nat t j HJ1.out, HR.out]
        have HK1 := Lib.hid hk1
        clear hk1 c0
        go_wp2_with fail
        have hj3 := HJM.out
        refine ⟨⟨j + 1, by go_num, by omega, by omega, ?_, HK.out.and HK1.out⟩, by simp [intOf]; omega⟩
        have e : j + 1 - 1 = j := by omega
        rw [e, idl_step t HP.out, HR.out]
        simp only [Bool.false_eq_true, if_false, List.append_nil]
        rw [HN.out]
        exact owned_kept HW.out HK1.out (fun _ _ _ => not_no _)
      · have HR := Lib.hid hr
        clear hr
        go_wp2_with fail
        refine (has_kept HI.out (j : Nat)).mono ?_
        rintro e w1 ⟨rfl, hk1⟩
        rw [has_nat t j HJ1.out, HR.out]
        have HK1 := Lib.hid hk1
        have HO1 := Lib.hid ((owned_kept HW.out hk1 (fun _ _ _ => not_no _)).alloc (.cells #[.int .i64 (j : Nat)] 3))
        have HS1 := Lib.hid (show w.heap.size ≤ (w1.alloc (.cells #[.int .i64 (j : Nat)] 3)).heap.size by have := HK.out.size; have := hk1.size; simp; omega)
        have HB1 := Lib.hid (show (n + 1) * 8 ≤ 140737488355328 by omega)
        clear hk1 c0
        go_wp2_with (at_builtin; refine wpList_append_rd rfl rfl rfl rfl ei22 HO1.out (rd_new1 w1 (.int .i64 (j : Nat)) 3) (by intro u hu; simp at hu; rw [hu]; rfl) HB1.out HS1.out ?_; intro v2 w2 hown2 hg2 _; obtain ⟨ad2, cap2, rfl⟩ := owned_slice hown2; have HO2 := Lib.hid hown2; have HK2 := Lib.hid (show Kept No w w2 from ((HK.out.and HK1.out).alloc _).grown hg2 (fun k e hlt => by have := (HO1.out.lt k e).1; omega)); clear hown2 hg2)
        have hj3 := HJM.out
        refine ⟨⟨j + 1, by go_num, by omega, by omega, ?_, HK2.out⟩, by simp [intOf]; omega⟩
        have e : j + 1 - 1 = j := by omega
        rw [e, idl_step t HP.out, HR.out]
        simp only [if_true]
        have e2 : (idl t p ++ [j]).length = n + 1 := by rw [List.length_append, HN.out]; rfl
        rw [e2]
        have e3 : ints (idl t p ++ [j]) = ints (idl t p) ++ [.int .i64 (j : Nat)] := by simp [ints]
        rw [e3]
        exact HO2.out
    · have hjm2 : p = most := by have := HP.out; omega
      have d1 : decide (j ≤ most) = false := by simp; exact Nat.lt_of_not_le hlt
      have HJM := Lib.hid hjm2
      clear hlt hjm2
      go_wp2_with fail
      refine (values_any ad n cap _).mono ?_
      rintro e w' ⟨rfl, rfl⟩
      go_wp2_with fail
      go_ret
      have ho := HW.out
      rw [HJM.out] at ho
      have hsz := HK.out.size
      have hn2 : (idl t most).length = n := by rw [← HJM.out]; exact HN.out
      refine ⟨.slice ad n cap, wr.heap.size, rfl, hsz, obj_cell (heap_alloc_new wr _) 0, ?_, HK.out.alloc _⟩
      rw [hn2]
      exact (rd_owned ho).alloc _
theorem allf_zero {w : World} {p : Value} (hz : Calls Tryd.prog 24 #[p] w fun e w' => e = .returned (.bool true) ∧ w = w') :
    Calls Tryd.prog 21 #[p] w (AllPost (fun _ => false) 0 w) := by
  have HZ := Lib.hid hz
  clear hz
  go_enter Tryd.func21, Tryd.ntmps21
  go_wp2_with fail
  refine HZ.out.mono ?_
  rintro e w' ⟨rfl, rfl⟩
  go_wp2_with fail
  refine (values_any _ _ _ _).mono ?_
  rintro e w' ⟨rfl, rfl⟩
  go_wp2_with fail
  go_ret
  exact ⟨.slice none 0 0, w.heap.size, rfl, Nat.le_refl _, obj_cell (heap_alloc_new w _) 0, rd_nil _ _ _, (Kept.refl No w).alloc _⟩

/-- the iterator: the places of the list, one by one -/
abbrev Pl (n : Nat) := { m : Nat // m < n }
set_option maxRecDepth 100000 in
set_option maxHeartbeats 1600000 in
theorem values1_in (S : Nat → Prop) (n bx : Nat) (v : Value) (l : List Nat) (lp : Nat) (nd : Nat) (hnd : 1 ≤ nd) (hn : n ≤ 5000) (hl : l.length = n) (hbx : ¬ S bx)
    (J Jx : List (Pl n) → World → Prop) (hJd : ∀ pre W q, J pre W → J pre (World.drewN W q))
    (hY : ∀ pre (y : Pl n) W, J pre W → pre.length < n → YieldAt Fence.wide (nd - 1) Tryd.prog lp #[.int .i64 (l.getD y.1 0 : Nat)] W fun e W' =>
      (e = .returned (.bool true) ∧ J (pre ++ [y]) W' ∧ Kept S W W') ∨ (e = .returned (.bool false) ∧ Jx (pre ++ [y]) W'))
    (W : World) (c1 : W.cell? ⟨bx, 0, none⟩ = some v) (hr : Rd W (fun i => ¬ S i) 1 v n (ints l)) (h0 : J [] W) :
    CallsIn Fence.wide nd Tryd.prog 37 #[.func (.yield lp) #[] #[], .pointer (some ⟨bx, 0, none⟩)] W fun e W' => (∃ v, e = .returned v) ∧
      ((∃ ys : List (Pl n), ys.map Subtype.val = List.range n ∧ J ys W') ∨ (∃ pre : List (Pl n), True ∧ Jx pre W')) := by
  obtain ⟨ad, cap, rfl⟩ := rd_slice hr
  have HR := Lib.hid hr
  have HY := Lib.hid hY
  have HJ := Lib.hid hJd
  have H0 := Lib.hid h0
  have HLL := Lib.hid hl
  clear hr hY hJd h0 hl
  refine callsIn_of_wp Tryd.func37 rfl trivial ?_ rfl
  simp only [Tryd.ntmps37, List.size_toArray, List.length_cons, List.length_nil, Nat.reduceAdd, Nat.reduceSub, Array.replicate_succ, Array.replicate_zero, List.push_toArray, List.append_toArray, List.nil_append, List.cons_append]
  gi_wp2
  gi_loopw [4, 7] (fun _ i wr => ∃ (m : Nat) (pre : List (Pl n)), i = .int .i64 (m : Nat) ∧ m ≤ n ∧ pre.map Subtype.val = List.range m ∧ J pre wr ∧ Kept S W wr) (fun _ i _ => n - (RowKit.intOf i).toNat)
  case atStart => exact ⟨0, [], rfl, Nat.zero_le _, by simp, H0.out, Kept.refl _ _⟩
  case round =>
    obtain ⟨m, pre, rfl, hm, hpre, hj, hB⟩ := hrel
    have hlen : pre.length = m := by have := congrArg List.length hpre; simpa using this
    have HP := Lib.hid hpre
    have HL := Lib.hid hlen
    have Hj := Lib.hid hj
    have HB := Lib.hid hB
    clear hpre hlen hj hB c1
    by_cases hlt : m < n
    · have hd : decide (m < n) = true := by simp; exact hlt
      have hml : m < l.length := by rw [HLL.out]; exact hlt
      have hrk := HR.out.kept HB.out (fun i _ h => h)
      obtain ⟨_, _, ⟨_, hz⟩ | ⟨b, off, c2, hv, _, _, hc⟩⟩ := hrk
      · omega
      have g1 := hc m _ (ints_get l m hml)
      cases hv
      have hgd : l.getD m 0 = l[m] := by rw [List.getD_eq_getElem?_getD, List.getElem?_eq_getElem hml]; rfl
      obtain ⟨yv, hyv⟩ : ∃ yv : Int, ((l[m] : Nat) : Int) = yv := ⟨_, rfl⟩
      rw [hyv] at g1
      have HYV := Lib.hid (show ((l.getD m 0 : Nat) : Int) = yv by rw [hgd]; exact hyv)
      have HLT := Lib.hid hlt
      have hm0 : (0 : Int) ≤ (m : Int) := by omega
      have hm1 : (m : Int) < (n : Int) := by omega
      clear hc hlt hgd hyv hml hm
      obtain ⟨fn, tmps, assign, body, hy, hRR⟩ := HY.out pre ⟨m, HLT.out⟩ wr Hj.out (by rw [HL.out]; exact HLT.out)
      dsimp only at hy
      rw [HYV.out] at hy
      gi_wp2
      refine hRR.mono ?_
      rintro e W' (⟨rfl, hJ', hk'⟩ | ⟨rfl, hF⟩)
      · have HJ' := Lib.hid hJ'
        have HK' := Lib.hid hk'
        clear hJ' hk' hy hRR hd g1
        gi_wp2
        have h2 := HLT.out
        exact ⟨⟨m + 1, pre ++ [⟨m, h2⟩], by go_num, by omega, by rw [List.range_succ, List.map_append, HP.out]; rfl, HJ'.out, HB.out.and HK'.out⟩, by simp [RowKit.intOf]; omega⟩
      · have HX := Lib.hid hF
        clear hy hRR hd g1 hF
        gi_wp2
        refine bodyPost_ret (results_none rfl _ _ _) rfl ?_
        exact ⟨⟨_, rfl⟩, .inr ⟨_, trivial, HX.out⟩⟩
    · have hmn : m = n := by omega
      have hd : decide (m < n) = false := by simp; omega
      have HMN := Lib.hid hmn
      clear hlt hmn hm
      gi_wp2
      go_end0
      exact ⟨⟨_, rfl⟩, .inl ⟨pre, HP.out.trans (congrArg List.range HMN.out), Hj.out⟩⟩
theorem values_stops (S : Nat → Prop) (n bx : Nat) (v : Value) (l : List Nat) (nd : Nat) (hnd : 1 ≤ nd) (hn : n ≤ 5000) (hl : l.length = n) (hbx : ¬ S bx) (w : World) (hS : ∀ i, w.heap.size ≤ i → S i)
    (c1 : w.cell? ⟨bx, 0, none⟩ = some v) (hr : Rd w (fun i => ¬ S i) 1 v n (ints l)) :
    SeqStopsK Fence.wide nd Tryd.prog 37 #[.pointer (some ⟨bx, 0, none⟩)] (fun y : Pl n => #[.int .i64 (l.getD y.1 0 : Nat)]) (Kept S)
      (fun ys => ys.map Subtype.val = List.range n) (fun _ => True) n w := by
  intro lp J Jx W hW hJ hJx hY hj0
  have hk0 : Kept No w W := Kept.of_below hW
  exact values1_in S n bx v l lp nd hnd hn hl hbx J Jx (fun pre W q h => hJ pre W (W.drewN q) none h ⟨rfl, rfl, rfl, Nat.le_refl _, fun _ _ _ => rfl⟩ (fun r e => by cases e)) hY W (hk0.cell c1 (not_no _)) (hr.kept hk0 (fun _ _ _ => not_no _)) hj0
end Go.Proofs.YtkdienebinnopaaDoor
