/-
  Pool: Cards, Select.
-/
import Derived.Test.YtclgoilfclmibaaGreatDoorPc
import Derived.Test.YtclgoilfclmibaaGreatDoorWalkA
set_option linter.unusedVariables false
set_option linter.unusedSimpArgs false
namespace Go.Proofs.YtclgoilfclmibaaGreatDoor
open Go.RowKit Go.Zn
attribute [local go_sem] Oper.semAt_some

theorem eiC : SliceOf Tryz.prog 22 46 14 152 (.agg zCells) := ⟨Tryz.underlying22, info_parts (by kernel_rfl), rfl, by decide, by decide⟩
theorem eiI : SliceOf Tryz.prog 57 3 1 8 (.int .i64 0) := ⟨Tryz.underlying57, info_parts (by kernel_rfl), rfl, by decide, by decide⟩
theorem rd_newC (W : World) (c : Crd) (ev tv : Value) : Rd (W.alloc (.cells (crdCs c ev tv).toArray 46)) (fun i => i = W.heap.size) 14 (.slice (some ⟨W.heap.size, 0, none⟩) 1 1) 1 (crdCs c ev tv) :=
  ⟨rfl, by simp [maxLen], .inr ⟨W.heap.size, 0, 1, rfl, Nat.le_refl _, fun _ => rfl, fun j x hj => by
    rw [Nat.zero_add, obj_cell (heap_alloc_new W _), List.getElem?_toArray]
    exact hj⟩⟩
theorem OwnCs.app {W W1 W2 : World} {base : Nat} {ov v2 ev tv : Value} {l : List Crd} {c : Crd} {cs : List Value} {o : Obj} (hrow : W.ownsRow base 46 14 ov l.length cs) (hcc : OwnCC W base l cs) (hk : Kept No W W1) (hc : OwnC W1 base c ev tv)
    (hown : W2.ownsRow base 46 14 v2 (l.length + 1) (cs ++ crdCs c ev tv)) (hg : (W1.alloc o).grownBy W2 ov.ownBlock) : OwnCs W2 base v2 (l ++ [c]) := by
  have hrow1 := owned_kept hrow hk fun _ _ _ => not_no _
  have hk2 : Kept (fun k => ov.ownBlock = some k) W1 W2 := ((Kept.refl (fun k => ov.ownBlock = some k) W1).alloc o).grown hg fun k e _ => e
  have nE : NoTag W1 50 (fun k => ov.ownBlock = some k) := .of_row hrow1 (by decide)
  have nT : NoTag W1 71 (fun k => ov.ownBlock = some k) := .of_row hrow1 (by decide)
  have hcc1 : OwnCC W1 base l cs := hcc.kept hk (.no _ _) (.no _ _)
  refine ⟨cs ++ crdCs c ev tv, ?_, (hcc1.kept hk2 nE nT).snoc (hc.kept hk2 nE nT)⟩
  rw [List.length_append]
  exact hown
def CsRel (l : List Crd) (w : World) (ov iv : Value) (wr : World) : Prop := ∃ i : Nat, iv = .int .i64 (i : Nat) ∧ i ≤ l.length ∧ OwnCs wr w.heap.size ov (l.take i) ∧ Kept No w wr
def CardsPost (l : List Crd) (w : World) (e : Ending) (w' : World) : Prop := ∃ v, e = .returned v ∧ OwnCs w' w.heap.size v l ∧ Kept No w w'
set_option maxRecDepth 100000 in
set_option maxHeartbeats 4000000 in
theorem cards_any {w : World} {B : Nat → Prop} {p : Value} {l : List Crd} (h : PoolAt w B p l) (hl : l.length ≤ 1000000) (hsm : ∀ c ∈ l, Sm c) : Calls Tryz.prog 14 #[p] w (CardsPost l w) := by
  have HL := Lib.hid (len_any h)
  obtain ⟨g, m, v, rfl, h⟩ := h
  obtain ⟨ad, cap, rfl⟩ := h.cards.slice
  have HP := Lib.hid h
  have HSM := Lib.hid hsm
  obtain ⟨n, hn⟩ : ∃ n, l.length = n := ⟨_, rfl⟩
  have HN := Lib.hid hn
  rw [hn] at HL hl HP
  clear h hsm hn
  go_enter Tryz.func14, Tryz.ntmps14
  go_wp2_with fail
  refine HL.out.mono ?_
  rintro e w' ⟨rfl, rfl⟩
  go_wp2_with fail
  go_loopw [3, 7] (fun ov iv wr => CsRel l w ov iv wr) (fun _ iv _ => n - (intOf iv).toNat)
  case atStart => exact ⟨0, rfl, Nat.zero_le _, ⟨[], World.ownsRow_nil _ _ _ _, rfl⟩, Kept.refl No w⟩
  case round =>
    obtain ⟨i, rfl, hi, ho, hk⟩ := hrel
    rw [HN.out] at hi
    have HO := Lib.hid ho
    have HK := Lib.hid hk
    by_cases hlt : i < n
    · have hil : i < l.length := by rw [HN.out]; exact hlt
      obtain ⟨c, hc⟩ : ∃ c, l[i]? = some c := ⟨_, List.getElem?_eq_getElem hil⟩
      have hP := HP.out.no hk
      obtain ⟨b, off, cap1, ev, tv, hs, hcap, hrg, hca⟩ := hP.cards.at hc
      have c0 := obj_cell hP.obj 0
      have HCP := Lib.hid (copy_any (HSM.out c (List.mem_of_getElem? hc)) hca)
      rw [HN.out] at hs
      cases hs
      obtain ⟨cs, hrow, hcc⟩ := ho
      have htl : (l.take i).length = i := by rw [List.length_take]; omega
      rw [htl] at hrow
      have HROW := Lib.hid hrow
      have HCC := Lib.hid hcc
      have HTL := Lib.hid htl
      have HTK := Lib.hid (show l.take (i + 1) = l.take i ++ [c] by rw [List.take_add_one, hc]; rfl)
      have HRG := Lib.hid hrg
      have HSZ := Lib.hid (show w.heap.size ≤ wr.heap.size from hk.size)
      have HLB := Lib.hid (show (i + 1) * 152 ≤ 140737488355328 by omega)
      have d1 : decide (i < n) = true := decide_eq_true hlt
      have hi0 : (0 : Int) ≤ (i : Int) := by omega
      have hin : (i : Int) < (n : Int) := by omega
      have q4 : IntKind.i64.wrap ((i : Int) + 1) = (i : Int) + 1 := IntWalk.i64_in _ (by omega)
      have HI := Lib.hid hlt
      clear hk hlt hil hc hP hrg hca hrow hcc htl hcap hl
      go_wp2_with (with_reducible refine wpList_load_mid rfl 46 _ rfl b (off + i * 14) rfl (crdCs c ev tv) _ HRG.out Tryz.underlying46 rfl (by kernel_rfl) ?_)
      refine HCP.out.mono ?_
      rintro e w2 ⟨ev2, tv2, rfl, hown, hk2⟩
      obtain ⟨ade, cape, rfl⟩ := owned_slice hown.effs
      obtain ⟨adt, capt, rfl⟩ : ∃ ad cp, tv2 = .slice ad c.trgs.length cp := by obtain ⟨cst, hrowt, _⟩ := hown.trgs; exact owned_slice hrowt
      have HOW := Lib.hid (hown.mono HSZ.out)
      have HK2 := Lib.hid hk2
      have HS2 := Lib.hid (show w.heap.size ≤ w2.heap.size by have := hk2.size; have := HSZ.out; omega)
      have HALL := Lib.hid (crd_one c (ev := .slice ade c.effs.length cape) (tv := .slice adt c.trgs.length capt) rfl rfl)
      clear hown hk2
      go_wp2_with (at_builtin; refine wpList_append_rd (xv := .slice (some ⟨w2.heap.size, 0, none⟩) 1 1) rfl rfl rfl rfl eiC (owned_kept HROW.out (HK2.out.alloc _) fun _ _ _ => not_no _) (rd_newC w2 c (.slice ade c.effs.length cape) (.slice adt c.trgs.length capt)) HALL.out HLB.out (by have := HS2.out; simp; omega) ?_; intro v5 w5 hown5 hg5 _)
      have hI := HI.out
      refine ⟨⟨i + 1, by go_num, by rw [HN.out]; omega, ?_, ?_⟩, by simp [intOf]; omega⟩
      · rw [HTK.out]
        exact OwnCs.app (by rw [HTL.out]; exact HROW.out) HCC.out HK2.out HOW.out (by rw [HTL.out]; exact hown5) hg5
      · exact ((HK.out.and HK2.out).alloc _).grown hg5 (fun k e h => absurd (HROW.out.lt k e).1 (by omega))
    · have d1 : decide (i < n) = false := decide_eq_false hlt
      have HR := Lib.hid (show l.take i = l from List.take_of_length_le (by rw [HN.out]; omega))
      clear hlt hk ho
      go_wp2_with fail
      go_ret
      exact ⟨_, rfl, HR.out ▸ HO.out, HK.out⟩
end Go.Proofs.YtclgoilfclmibaaGreatDoor
