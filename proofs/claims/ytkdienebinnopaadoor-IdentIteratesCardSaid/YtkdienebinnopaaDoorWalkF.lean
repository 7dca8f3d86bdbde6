/-
  Ident: the law's 'takes' and 'all'.
-/
import Derived.Test.YtkdienebinnopaaDoorWalkE
import Derived.RangeFuncWrites
namespace Go.Proofs.YtkdienebinnopaaDoor
open Go.RowKit Go.Zn Go.Shelf
attribute [local go_sem] Oper.semAt_some

/-- the law's 'takes', where the next id to be taken is the one that is asked for -/
def TakesPost (b tb most : Nat) (t : Nat → Bool) (w : World) (e : Ending) (w' : World) : Prop := e = .returned (.bool true) ∧ Ids w' b tb most t ∧ Kept (Bk tb) w w'
theorem least_unique {t : Nat → Bool} {most i j : Nat} (hi : LeastFree t most i) (hj : LeastFree t most j) : i = j := by
  rcases Nat.lt_trichotomy i j with h | h | h
  · have := hj.2.2.2 i hi.1 h; rw [hi.2.2.1] at this; cases this
  · exact h
  · have := hi.2.2.2 j hj.1 h; rw [hj.2.2.1] at this; cases this
theorem takes_ok {w : World} {b tb most : Nat} {t : Nat → Bool} (h : Ids w b tb most t) (hl : Laid w) (id : Nat) (hid : LeastFree t most id) (x : Int) (hx : x = (id : Nat)) :
    Calls Tryd.prog 10 #[.pointer (some ⟨b, 0, none⟩), .int .i64 x, .int .i64 0] w (TakesPost b tb most (put t id true) w) := by
  have ht := take_any h hl
  have HT := Lib.hid ht
  have HI := Lib.hid hid
  have hm2 := h.m2
  have HX := Lib.hid hx
  clear ht hid h hx
  go_enter Tryd.func10, Tryd.ntmps10
  go_wp2_with fail
  refine HT.out.mono ?_
  rintro e w' (⟨j, hj, rfl, hi, hk⟩ | ⟨ha, rfl, rfl⟩)
  · have hij := least_unique hj HI.out
    obtain ⟨y, hy⟩ : ∃ y : Int, ((j : Nat) : Int) = y := ⟨_, rfl⟩
    have hxy : (y == x) = true := by rw [beq_iff_eq, ← hy, HX.out, hij]
    rw [hy]
    have HJ := Lib.hid hi
    have HK := Lib.hid hk
    have HIJ := Lib.hid hij
    clear hi hk hij hj hy
    go_wp2_with fail
    go_ret
    have h3 := HJ.out
    rw [HIJ.out] at h3
    exact ⟨rfl, h3, HK.out⟩
  · have := HI.out
    have h5 := ha id this.1 this.2.1
    rw [this.2.2.1] at h5
    cases h5
theorem takes_full {w : World} {b tb most : Nat} {t : Nat → Bool} (h : Ids w b tb most t) (hl : Laid w) (ha : AllTaken t most) :
    Calls Tryd.prog 10 #[.pointer (some ⟨b, 0, none⟩), .int .i64 0, .int .i64 7] w (TakesPost b tb most t w) := by
  have ht := take_any h hl
  have HT := Lib.hid ht
  have HA := Lib.hid ha
  have HH := Lib.hid h
  clear ht ha h
  go_enter Tryd.func10, Tryd.ntmps10
  go_wp2_with fail
  refine HT.out.mono ?_
  rintro e w' (⟨j, hj, rfl, hi, hk⟩ | ⟨ha, rfl, rfl⟩)
  · have h5 := HA.out j hj.1 hj.2.1
    rw [hj.2.2.1] at h5
    cases h5
  · go_wp2_with fail
    go_ret
    exact ⟨rfl, HH.out, Kept.refl _ _⟩
theorem takes_zero {w : World} {p : Value} (hz : Calls Tryd.prog 24 #[p] w fun e w' => e = .returned (.bool true) ∧ w = w') :
    Calls Tryd.prog 10 #[p, .int .i64 0, .int .i64 1] w fun e w' => e = .returned (.bool true) ∧ w = w' := by
  have HZ := Lib.hid hz
  clear hz
  go_enter Tryd.func10, Tryd.ntmps10
  go_wp2_with fail
  refine (take_zero HZ.out).mono ?_
  rintro e w' ⟨rfl, rfl⟩
  go_wp2_with fail
  go_ret
  exact ⟨rfl, rfl⟩

theorem rd_lt {w : World} {B : Nat → Prop} {size : Nat} {v : Value} {n : Nat} {xs : List Value} (h : Rd w B size v n xs) : Rd w (fun i => i < w.heap.size) size v n xs :=
  ⟨h.1, h.2.1, by
    obtain ⟨_, _, h3 | ⟨b, off, cap, hv, hc, hb, hx⟩⟩ := h
    · exact .inl h3
    · refine .inr ⟨b, off, cap, hv, hc, fun h0 => ?_, hx⟩
      exact block_lt_of_cell (hx 0 _ (List.getElem?_eq_getElem h0))⟩
/-- what the loop has gathered so far: the first ids of the list -/
def gat (l : List Nat) {n : Nat} (pre : List (Pl n)) : List Nat := pre.map fun y => l.getD y.1 0
theorem gat_all (l : List Nat) {n : Nat} (hn : l.length = n) (ys : List (Pl n)) (h : ys.map Subtype.val = List.range n) : gat l ys = l := by
  have e : gat l ys = (ys.map Subtype.val).map fun m => l.getD m 0 := by simp [gat]
  rw [e, h]
  apply List.ext_getElem
  · simp [hn]
  · intro i h1 h2
    simp only [List.getElem_map, List.getElem_range]
    rw [List.getD_eq_getElem?_getD, List.getElem?_eq_getElem h2]; rfl
theorem gat_length (l : List Nat) {n : Nat} (pre : List (Pl n)) : (gat l pre).length = pre.length := by simp [gat]
theorem gat_snoc (l : List Nat) {n : Nat} (pre : List (Pl n)) (y : Pl n) : gat l (pre ++ [y]) = gat l pre ++ [l.getD y.1 0] := by simp [gat]
theorem ints_snoc (l : List Nat) (a : Nat) : ints (l ++ [a]) = ints l ++ [.int .i64 (a : Nat)] := by simp [ints]
def AllI (n0 : Nat) (w : World) (l : List Nat) {n : Nat} (pre : List (Pl n)) (W : World) : Prop :=
  (∃ v, Boxed W n0 22 v ∧ W.ownsRow n0 3 1 v (gat l pre).length (ints (gat l pre)) ∧ True) ∧ Below n0 w W
theorem allI_own (n0 B : Nat) (w : World) (l : List Nat) {n : Nat} (hn : n0 ≤ w.heap.size) (hB : n0 ≤ B) : OwnFrom B (AllI n0 w l (n := n)) :=
  OwnFrom.and (Own.from (holdsRow_own n0 n0 22 3 1 (fun pre : List (Pl n) => (gat l pre).length) (fun pre => ints (gat l pre)) (fun _ _ => True)) _) (ownFrom_below hn hB)
theorem run_func_nil (fn : Fn) (a c : Array Value) (W : World) : Sem.run Tryd.prog (binOp BinOp.eql 49 (.func fn a c) .nilFunc) W = .ok (.bool false) W := by kernel_rfl
set_option maxRecDepth 100000 in
set_option maxHeartbeats 1600000 in
theorem all_any {p : Value} {w : World} {t : Nat → Bool} {most : Nat} (hm : most ≤ 4096) (hA : Calls Tryd.prog 21 #[p] w (AllPost t most w)) (C : Nat → Prop) (v2 : Value) (hr : Rd w C 1 v2 (idl t most).length (ints (idl t most))) :
    Calls Tryd.prog 22 #[p, v2] w fun e w' => e = .returned (.bool true) ∧ Kept No w w' := by
  obtain ⟨l, hl⟩ : ∃ l, idl t most = l := ⟨_, rfl⟩
  obtain ⟨n, hn⟩ : ∃ n, l.length = n := ⟨_, rfl⟩
  have hn5 : n ≤ 5000 := by rw [← hn, ← hl, idl_length]; have := cnt_le t most; omega
  unfold AllPost at hA
  rw [hl, hn] at hA hr
  obtain ⟨adv, capv, rfl⟩ := rd_slice hr
  have HA := Lib.hid hA
  have HR := Lib.hid hr
  have HL := Lib.hid hn
  clear hA hr hn hl
  obtain ⟨i0, hi, hz0, hz1, hz2⟩ := ei22.hi
  have hfn := fun cap W => run_func_nil (.func 37) #[] cap W
  refine (callsIn_wide (n := 9)).1 ?_
  refine callsIn_of_wp_marks Tryd.func22 rfl trivial ?_ rfl
  simp only [Tryd.ntmps22, List.size_toArray, List.length_cons, List.length_nil, Nat.reduceAdd, Nat.reduceSub, Array.replicate_succ, Array.replicate_zero, List.push_toArray, List.append_toArray, List.nil_append, List.cons_append]
  gi_wp2_with (refine ⟨trivial, ?_⟩; gi_at_call 21; refine (callsIn_wide.2 HA.out).mono ?_; rintro e w1 ⟨v, bx, rfl, hbx, c1, hrd, hk1⟩)
  have hbl : bx < w1.heap.size := block_lt_of_cell c1
  obtain ⟨w2, hw2⟩ : ∃ w2, w1.alloc (.cells #[.slice none 0 0] 22) = w2 := ⟨_, rfl⟩
  have bO : Boxed w2 w1.heap.size 22 (.slice none 0 0) := by rw [← hw2]; exact Boxed.new w1 22 _
  have k2 : Kept No w1 w2 := by rw [← hw2]; exact (Kept.refl No w1).alloc _
  have s2 : w2.heap.size = w1.heap.size + 1 := by rw [← hw2]; simp
  have hB2 : Below w1.heap.size w1 w2 := k2.to_below
  have hB02 : Below w.heap.size w w2 := (hk1.to_below).trans ((k2.to_below).mono hk1.size)
  have hrd2 : Rd w2 (fun i => ¬ w1.heap.size ≤ i) 1 v n (ints l) := ((rd_lt hrd).mono (fun b _ h => by omega)).kept k2 (fun _ _ _ => not_no _)
  have c2 : w2.cell? ⟨bx, 0, none⟩ = some v := k2.cell c1 (not_no _)
  rw [hw2]
  refine wpIn_rangeFunc_ownF (w0 := w2) rfl (by decide) (gf := 37) (lb := #[.pointer (some ⟨bx, 0, none⟩)]) rfl trivial (enters_of Tryd.func37 (by kernel_rfl) rfl)
    (values_stops (fun i => w1.heap.size ≤ i) n bx v l 8 (by decide) hn5 HL.out (by omega) w2 (fun i hi => by omega) c2 hrd2)
    (fun h k => h.and k) (fun W lb o o' hl hh ho hw => (Kept.refl _ W).grown (grownBy_putObj' W lb o') (fun k e _ => by cases e; omega)) (Below.refl _ _) (fun _ => rfl)
    (AllI w1.heap.size w1 l) (fun _ _ _ => False) (allI_own _ _ w1 l (Nat.le_refl _) (by omega)) (fun _ _ _ _ _ hs _ _ => hs)
    ⟨⟨_, bO, World.ownsRow_nil _ _ _ _, trivial⟩, hB2⟩
    (fun y => { tmps := #[p, .slice adv n capv, undef, undef, .bool false, .func (.func 37) #[] #[.pointer (some ⟨bx, 0, none⟩)], .pointer (some ⟨w1.heap.size, 0, none⟩), .int .i64 (l.getD y.1 0 : Nat), p, .func (.func 37) #[] #[.pointer (some ⟨bx, 0, none⟩)], .func (.func 37) #[] #[.pointer (some ⟨bx, 0, none⟩)], .bool false, .func (.func 37) #[] #[.pointer (some ⟨bx, 0, none⟩)], .int .i64 (l.getD y.1 0 : Nat), undef, undef, undef, undef, undef, undef, undef], defers := [] }) ?assign ?body ?done ?stop
  case assign =>
    intro l x W K hK
    gi_wp2
    exact hK
  case body =>
    rintro lp pre y W ⟨⟨v3, hv, hrow, _⟩, hB⟩ hlt
    have hc := hv.cell
    obtain ⟨x, hx⟩ : ∃ x : Int, ((l.getD y.1 0 : Nat) : Int) = x := ⟨_, rfl⟩
    have hpl : (gat l pre).length + 1 ≤ 5000 := by rw [gat_length]; omega
    rw [hx]
    have HX := Lib.hid hx
    have HROW := Lib.hid hrow
    have HV := Lib.hid hv
    have HPL := Lib.hid (show ((gat l pre).length + 1) * 8 ≤ 140737488355328 by omega)
    have HML := Lib.hid (small_maxLen (k := (gat l pre).length + 1) (bytes := 8) (by decide) HPL.out)
    have HSZ := Lib.hid (show w1.heap.size ≤ (W.alloc (.cells #[.int .i64 x] 3)).heap.size by have := hB.size; simp; omega)
    clear hx hrow hv hpl hrd2 c2 hrd c1
    gi_wp2_with (gi_at_builtin; refine wpListIn_append_own _ rfl _ _ 22 rfl w1.heap.size 3 i0 (.int .i64 0) 1 8 Tryd.underlying22 hi hz0 hz1 hz2 rfl (by decide) _ _ _ rfl (HROW.out.alloc _) ⟨W.heap.size, 0, none⟩ 1 1 [.int .i64 x] rfl rfl (cell_one_new _ _ _) (by simp [Value.oneCell']) HML.out HPL.out HSZ.out ?_; intro v' w3 hown' hgrow _; obtain ⟨ad3, cap3, rfl⟩ := owned_slice hown'; obtain ⟨hv1, hv2, hr2, hk2, hb2⟩ := HV.out.appended (by decide) HROW.out hB.size (Nat.le_refl _) hown' hgrow; have hc1 := hv1.cell; have hf1 := hv1.frozen)
    have hxl := HX.out
    refine ⟨hk2, ?_, ⟨⟨_, hv2, ?_, trivial⟩, hB.trans hb2⟩⟩
    · exact ⟨hb2.os, hb2.tape, hb2.output, hb2.size, fun k hk hn => hb2.block k (by omega)⟩
    · rw [gat_snoc, ints_snoc, hxl, List.length_append]
      exact hr2
  case done =>
    rintro D ys W hD hS ⟨⟨v3, hv, hrow, _⟩, hB⟩ hK
    rw [gat_all l HL.out ys hS, HL.out] at hrow
    have hc := hv.cell
    have HROW := Lib.hid hrow
    have hkw : Kept No w W := (hk1.trans (Kept.of_below hB) (fun _ _ h => h) (fun _ _ h => h))
    have hrv : Rd W C 1 (.slice adv n capv) n (ints l) := HR.out.kept hkw (fun _ _ _ => not_no _)
    have HRV := Lib.hid hrv
    have HKW := Lib.hid hkw
    obtain ⟨ad4, cap4, rfl⟩ := owned_slice hrow
    have HS5 := Lib.hid (same_any W (fun k => w1.heap.size ≤ k) C _ _ l n HL.out (rd_owned hrow) hrv hn5)
    clear hrow hrd2 c2 hrd c1 hrv
    gi_wp2_with (refine ⟨trivial, ?_⟩; gi_at_call 33; refine (callsIn_wide.2 HS5.out).mono ?_; rintro e W5 ⟨rfl, q, rfl⟩)
    have hs1 := hk1.size
    refine ⟨by simp, .inl ⟨_, _, rfl, run_takeDeferred (w := W.drewN q) hK, ?_⟩⟩
    exact ⟨_, results_tmp rfl _ _ _, rfl, (HKW.out.drewN q).grown (grownBy_putObj' _ D _) (fun k e hlt => by cases e; omega)⟩
  case stop =>
    rintro D c pre W _ _ h _
    exact h.elim
end Go.Proofs.YtkdienebinnopaaDoor
