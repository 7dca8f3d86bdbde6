/-
  Pool: Select.
-/
import Derived.Test.YtclgoilfclmibaaGreatDoorPd
set_option linter.unusedVariables false
set_option linter.unusedSimpArgs false
namespace Go.Proofs.YtclgoilfclmibaaGreatDoor
open Go.RowKit Go.Zn
attribute [local go_sem] Oper.semAt_some

def nvals (l : List Nat) : List Value := l.map fun n => Value.int .i64 (n : Nat)
@[simp] theorem nvals_length (l : List Nat) : (nvals l).length = l.length := by simp [nvals]
theorem nvals_get (l : List Nat) (j : Nat) : (nvals l)[j]? = (l[j]?).map fun n => Value.int .i64 (n : Nat) := by simp [nvals]
theorem rd_i1 (w : World) (n : Nat) {k : Nat} (hk : k = w.heap.size) : Rd (w.alloc (.cells #[.int .i64 (n : Nat)] 3)) (fun i => i = k) 1 (.slice (some ⟨k, 0, none⟩) 1 1) 1 (nvals [n]) := by
  subst hk
  exact rd_new1 w _ _
set_option maxRecDepth 100000 in
set_option maxHeartbeats 1600000 in
theorem fits_any (k r : Int) (c : Crd) (ev tv : Value) (w : World) : Calls Tryz.prog 39 #[.agg #[.int .i64 k, .int .i64 r], crdV c ev tv] w fun e w' => e = .returned (.bool (fitsF k r c)) ∧ Kept No w w' := by
  have hR : fitsF k r c = (((k == 0) || (c.kind == k)) && ((r == 0) || (c.rarity == r))) := rfl
  obtain ⟨b1, h1⟩ : ∃ b, (k == 0) = b := ⟨_, rfl⟩
  obtain ⟨b2, h2⟩ : ∃ b, (c.kind == k) = b := ⟨_, rfl⟩
  obtain ⟨b3, h3⟩ : ∃ b, (r == 0) = b := ⟨_, rfl⟩
  obtain ⟨b4, h4⟩ : ∃ b, (c.rarity == r) = b := ⟨_, rfl⟩
  rw [h1, h2, h3, h4] at hR
  have HR := Lib.hid hR
  have HK := Lib.hid (Kept.refl No w)
  clear hR
  cases b1
  · cases b2
    · go_enter Tryz.func39, Tryz.ntmps39
      go_wp2_with fail
      go_ret
      exact ⟨by rw [HR.out]; rfl, (HK.out.alloc _).alloc _⟩
    · cases b3
      · go_enter Tryz.func39, Tryz.ntmps39
        go_wp2_with fail
        go_ret
        exact ⟨by rw [HR.out]; rfl, (HK.out.alloc _).alloc _⟩
      · go_enter Tryz.func39, Tryz.ntmps39
        go_wp2_with fail
        go_ret
        exact ⟨by rw [HR.out]; rfl, (HK.out.alloc _).alloc _⟩
  · cases b3
    · go_enter Tryz.func39, Tryz.ntmps39
      go_wp2_with fail
      go_ret
      exact ⟨by rw [HR.out]; rfl, (HK.out.alloc _).alloc _⟩
    · go_enter Tryz.func39, Tryz.ntmps39
      go_wp2_with fail
      go_ret
      exact ⟨by rw [HR.out]; rfl, (HK.out.alloc _).alloc _⟩
def IRow (w : World) (base : Nat) (v : Value) (l : List Nat) : Prop := w.ownsRow base 3 1 v l.length (nvals l)
def SelRel (k r : Int) (l : List Crd) (w : World) (ov iv : Value) (wr : World) : Prop := ∃ i : Nat, iv = .int .i64 (i : Nat) ∧ i ≤ l.length ∧ IRow wr w.heap.size ov (selF (l.take i) k r) ∧ Kept No w wr
def SelPost (k r : Int) (l : List Crd) (w : World) (e : Ending) (w' : World) : Prop := ∃ v, e = .returned v ∧ IRow w' w.heap.size v (selF l k r) ∧ Kept No w w'
theorem sel_le (l : List Crd) (k r : Int) : (selF l k r).length ≤ l.length := by rw [sel_count]; exact List.countP_le_length
set_option maxRecDepth 100000 in
set_option maxHeartbeats 4000000 in
theorem indices_any (k r : Int) {w : World} {B : Nat → Prop} {v : Value} {l : List Crd} (h : CrdsAt w B v l) (hl : l.length ≤ 1000000) : Calls Tryz.prog 38 #[v, .func (.func 39) #[.agg #[.int .i64 k, .int .i64 r]] #[]] w (SelPost k r l w) := by
  obtain ⟨ad, cap, rfl⟩ := h.slice
  have HP := Lib.hid h
  obtain ⟨n, hn⟩ : ∃ n, l.length = n := ⟨_, rfl⟩
  have HN := Lib.hid hn
  rw [hn] at hl HP ⊢
  clear h hn
  go_enter Tryz.func38, Tryz.ntmps38
  go_wp2_with fail
  go_loopw [5, 10] (fun ov iv wr => SelRel k r l w ov iv wr) (fun _ iv _ => n - (intOf iv).toNat)
  case atStart => exact ⟨0, rfl, Nat.zero_le _, World.ownsRow_nil _ _ _ _, Kept.refl No w⟩
  case round =>
    obtain ⟨i, rfl, hi, ho, hk⟩ := hrel
    rw [HN.out] at hi
    have HO := Lib.hid ho
    have HK := Lib.hid hk
    by_cases hlt : i < n
    · have hil : i < l.length := by rw [HN.out]; exact hlt
      obtain ⟨c, hc⟩ : ∃ c, l[i]? = some c := ⟨_, List.getElem?_eq_getElem hil⟩
      obtain ⟨b, off, cap1, ev, tv, hs, hcap, hrg, hca⟩ := (HP.out.no hk).at hc
      obtain ⟨ade, cape, rfl⟩ := rd_slice hca.effs
      obtain ⟨adt, capt, rfl⟩ := hca.trgs.slice
      rw [HN.out] at hs
      cases hs
      have HRG := Lib.hid (show wr.rangeAt b (off + i * 14) [.string (strOf c.name), .int .i64 c.kind, .int .i64 c.o0, .int .i64 c.o1, .int .i64 c.o2, .int .i64 c.o3, .int .i64 c.any, .int .i64 c.makes, .int .i64 c.power, .int .i64 c.tough, .int .i64 c.keys, .slice ade c.effs.length cape, .slice adt c.trgs.length capt, .int .i64 c.rarity] from hrg)
      have htl : (l.take i).length = i := by rw [List.length_take]; omega
      have hsn := sel_snoc (l.take i) c k r
      rw [htl] at hsn
      have HTK := Lib.hid (show selF (l.take (i + 1)) k r = selF (l.take i) k r ++ (if fitsF k r c then [i] else []) by rw [List.take_add_one, hc]; exact hsn)
      have HF := Lib.hid (fun w' => fits_any k r c (.slice ade c.effs.length cape) (.slice adt c.trgs.length capt) w')
      obtain ⟨q, hq⟩ : ∃ q, fitsF k r c = q := ⟨_, rfl⟩
      rw [hq] at HF HTK
      have HLE := Lib.hid (show ((selF (l.take i) k r).length + 1) * 8 ≤ 140737488355328 by have := sel_le (l.take i) k r; omega)
      have HSZ := Lib.hid (show w.heap.size ≤ wr.heap.size from hk.size)
      have d1 : decide (i < n) = true := decide_eq_true hlt
      have hi0 : (0 : Int) ≤ (i : Int) := by omega
      have hin : (i : Int) < (n : Int) := by omega
      have q4 : IntKind.i64.wrap ((i : Int) + 1) = (i : Int) + 1 := IntWalk.i64_in _ (by omega)
      have HI := Lib.hid hlt
      have HOB := Lib.hid (show CObj (wr.alloc (.cells #[.string (strOf c.name), .int .i64 c.kind, .int .i64 c.o0, .int .i64 c.o1, .int .i64 c.o2, .int .i64 c.o3, .int .i64 c.any, .int .i64 c.makes, .int .i64 c.power, .int .i64 c.tough, .int .i64 c.keys, .slice ade c.effs.length cape, .slice adt c.trgs.length capt, .int .i64 c.rarity] 46)) wr.heap.size c (.slice ade c.effs.length cape) (.slice adt c.trgs.length capt) from heap_alloc_new wr _)
      clear ho hk hlt hil hc hrg hca htl hcap hl hq hsn
      cases q
      · go_wp2_with (with_reducible refine wpList_load_mid rfl 46 _ rfl b (off + i * 14) rfl [.string (strOf c.name), .int .i64 c.kind, .int .i64 c.o0, .int .i64 c.o1, .int .i64 c.o2, .int .i64 c.o3, .int .i64 c.any, .int .i64 c.makes, .int .i64 c.power, .int .i64 c.tough, .int .i64 c.keys, .slice ade c.effs.length cape, .slice adt c.trgs.length capt, .int .i64 c.rarity] _ HRG.out Tryz.underlying46 rfl (by kernel_rfl) ?_)
        refine (HF.out _).mono ?_
        rintro e w2 ⟨rfl, hk2⟩
        have HK2 := Lib.hid ((HK.out.alloc _).and hk2)
        have HO2 := Lib.hid (owned_kept HO.out (((Kept.refl No wr).alloc _).and hk2) fun _ _ _ => not_no _)
        clear hk2
        go_wp2_with fail
        have hI := HI.out
        exact ⟨⟨i + 1, by go_num, by rw [HN.out]; omega, by rw [HTK.out]; simp; exact HO2.out, HK2.out⟩, by simp [intOf]; omega⟩
      · go_wp2_with (with_reducible refine wpList_load_mid rfl 46 _ rfl b (off + i * 14) rfl [.string (strOf c.name), .int .i64 c.kind, .int .i64 c.o0, .int .i64 c.o1, .int .i64 c.o2, .int .i64 c.o3, .int .i64 c.any, .int .i64 c.makes, .int .i64 c.power, .int .i64 c.tough, .int .i64 c.keys, .slice ade c.effs.length cape, .slice adt c.trgs.length capt, .int .i64 c.rarity] _ HRG.out Tryz.underlying46 rfl (by kernel_rfl) ?_)
        refine (HF.out _).mono ?_
        rintro e w2 ⟨rfl, hk2⟩
        have HK2 := Lib.hid ((HK.out.alloc _).and hk2)
        have HO2 := Lib.hid (owned_kept HO.out (((Kept.refl No wr).alloc _).and hk2) fun _ _ _ => not_no _)
        clear hk2
        go_wp2_with (at_builtin; refine wpList_append_rd rfl rfl rfl rfl eiI (owned_kept HO2.out ((Kept.refl No w2).alloc _) fun _ _ _ => not_no _) (rd_i1 w2 i rfl) (by intro u hu; simp [nvals] at hu; subst hu; rfl) HLE.out (by have := HK2.out.size; simp; omega) ?_; intro v5 w5 hown5 hg5 _)
        have hI := HI.out
        refine ⟨⟨i + 1, by go_num, by rw [HN.out]; omega, ?_, ?_⟩, by simp [intOf]; omega⟩
        · have e1 : selF (l.take (i + 1)) k r = selF (l.take i) k r ++ [i] := by rw [HTK.out]; simp
          rw [e1]
          show World.ownsRow _ _ _ _ _ _ _
          rw [List.length_append, show nvals (selF (l.take i) k r ++ [i]) = nvals (selF (l.take i) k r) ++ nvals [i] by simp [nvals]]
          exact hown5
        · exact (HK2.out.alloc _).grown hg5 (fun k e h => absurd (HO2.out.lt k e).1 (by omega))
    · have d1 : decide (i < n) = false := decide_eq_false hlt
      have HR := Lib.hid (show l.take i = l from List.take_of_length_le (by rw [HN.out]; omega))
      clear hlt hk ho
      go_wp2_with fail
      go_ret
      exact ⟨_, rfl, HR.out ▸ HO.out, HK.out⟩
theorem select_any (k r : Int) {w : World} {B : Nat → Prop} {p : Value} {l : List Crd} (h : PoolAt w B p l) (hl : l.length ≤ 1000000) : Calls Tryz.prog 18 #[p, .int .i64 k, .int .i64 r] w (SelPost k r l w) := by
  obtain ⟨g, m, v, rfl, h⟩ := h
  obtain ⟨ad, cap, rfl⟩ := h.cards.slice
  have HZ := Lib.hid (zero_no h)
  have HI := Lib.hid (indices_any k r h.cards hl)
  have c0 := obj_cell h.obj 0
  clear h
  go_enter Tryz.func18, Tryz.ntmps18
  go_wp2_with fail
  refine HZ.out.mono ?_
  rintro e w' ⟨rfl, rfl⟩
  go_wp2_with fail
  refine HI.out.mono ?_
  rintro e w' ⟨v, rfl, ho, hk⟩
  have HO := Lib.hid ho
  have HK := Lib.hid hk
  clear ho hk
  go_wp2_with fail
  go_ret
  exact ⟨v, rfl, HO.out, HK.out⟩
theorem select_zero (k r : Int) {w : World} {p : Value} (h : PZero w p) : Calls Tryz.prog 18 #[p, .int .i64 k, .int .i64 r] w fun e w' => e = .returned (.slice none 0 0) ∧ w = w' := by
  have HZ := Lib.hid (zero_yes h)
  clear h
  go_enter Tryz.func18, Tryz.ntmps18
  go_wp2_with fail
  refine HZ.out.mono ?_
  rintro e w' ⟨rfl, rfl⟩
  go_wp2_with fail
  go_ret
  exact ⟨rfl, rfl⟩
theorem cards_zero {w : World} {p : Value} (h : PZero w p) : Calls Tryz.prog 14 #[p] w fun e w' => e = .returned (.slice none 0 0) ∧ w = w' := by
  have HZ := Lib.hid (len_zero h)
  clear h
  go_enter Tryz.func14, Tryz.ntmps14
  go_wp2_with fail
  refine HZ.out.mono ?_
  rintro e w' ⟨rfl, rfl⟩
  go_wp2_with fail
  refine wp_loop_rounds 1 ?_
  rw [rounds_succ]
  go_wp2_with fail
  go_ret
  exact ⟨rfl, rfl⟩
end Go.Proofs.YtclgoilfclmibaaGreatDoor
