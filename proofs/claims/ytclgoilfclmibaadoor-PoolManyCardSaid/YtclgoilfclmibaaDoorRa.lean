/-
  Pool: lists that are alike.
-/
import Derived.Test.YtclgoilfclmibaaDoorQe
import Derived.BigQuiet
import Derived.ChangeKeysEq
set_option linter.unusedVariables false
set_option linter.unusedSimpArgs false
namespace Go.Proofs.YtclgoilfclmibaaDoor
open Go Go.RowKit Go.Zn
attribute [local go_sem] Oper.semAt_some

def IxRel2 (n : Nat) (w : World) (iv : Value) (wr : World) : Prop := ∃ i : Nat, iv = .int .i64 (i : Nat) ∧ i ≤ n ∧ ∃ q, wr = w.drewN q
set_option maxRecDepth 100000 in
theorem esame_any {l : List Eff} (hl : l.length ≤ 1000000) {w : World} {B C : Nat → Prop} {v1 v2 : Value} (h1 : EffsAt w B v1 l) (h2 : EffsAt w C v2 l) : Calls Tryd.prog 57 #[v1, v2] w fun e w' => e = .returned (.bool true) ∧ ∃ q, w' = w.drewN q := by
  obtain ⟨ad1, cap1, rfl⟩ := rd_slice h1
  obtain ⟨ad2, cap2, rfl⟩ := rd_slice h2
  obtain ⟨n, hn⟩ : ∃ n, l.length = n := ⟨_, rfl⟩
  have HN := Lib.hid hn
  have H1 := Lib.hid h1
  have H2 := Lib.hid h2
  rw [hn] at H1 H2 hl ⊢
  clear h1 h2 hn
  go_enter Tryd.func57, Tryd.ntmps57
  go_wp2_with fail
  go_loopw [5] (fun iv wr => IxRel2 n w iv wr) (fun iv _ => n - (intOf iv).toNat)
  case atStart => exact ⟨0, rfl, Nat.zero_le _, 0, (World.drewN_zero w).symm⟩
  case round =>
    obtain ⟨i, rfl, hi, q, rfl⟩ := hrel
    have hk := (Kept.refl No w).drewN q
    by_cases hlt : i < n
    · have hil : i < l.length := by rw [HN.out]; exact hlt
      obtain ⟨e, he⟩ : ∃ e, l[i]? = some e := ⟨_, List.getElem?_eq_getElem hil⟩
      obtain ⟨b, off, c1, hs, g0, g1, g2, g3, g4⟩ := H1.out.at he
      obtain ⟨b', off', c1', hs', k0, k1, k2, k3, k4⟩ := H2.out.at he
      rw [HN.out] at hs hs'
      cases hs
      cases hs'
      have d1 : decide (i < n) = true := decide_eq_true hlt
      have hi0 : (0 : Int) ≤ (i : Int) := by omega
      have hin : (i : Int) < (n : Int) := by omega
      have q4 : IntKind.i64.wrap ((i : Int) + 1) = (i : Int) + 1 := IntWalk.i64_in _ (by omega)
      have HI := Lib.hid hlt
      clear hk hlt hil he
      go_wp2_with fail
      go_quiet (fail)
      go_wp2_with fail
      have hI := HI.out
      exact ⟨⟨i + 1, by go_num, by omega, _, rfl⟩, by simp [intOf]; omega⟩
    · have d1 : decide (i < n) = false := decide_eq_false hlt
      clear hlt hk
      go_wp2_with fail
      go_ret
      exact ⟨rfl, _, rfl⟩
theorem eq_mana (a b c d : Int) (W : World) : (Op.equalIn 9999 28 (.agg #[.int .i64 a, .int .i64 b, .int .i64 c, .int .i64 d]) (.agg #[.int .i64 a, .int .i64 b, .int .i64 c, .int .i64 d])).run Tryd.prog W = .ok true W := by
  have hu : Tryd.prog.underlying 28 = some (.array 4 3) := by kernel_rfl
  obtain ⟨i, hi, hz, hs, hb⟩ := (info_parts (P := Tryd.prog) (e := 3) (z := .int .i64 0) (size := 1) (bytes := 8) (by kernel_rfl))
  have hc : Tryd.prog.cellsOf 3 = 1 := by kernel_rfl
  have hi64 : Tryd.prog.underlying 3 = some (.int .i64) := by kernel_rfl
  rw [show 9999 = 9998 + 1 from rfl, run_equalIn_array W 9998 _ _ hu hi, hc]
  have p0 : ∀ W : World, (part 3 #[.int .i64 a, .int .i64 b, .int .i64 c, .int .i64 d] 0).run Tryd.prog W = .ok (.int .i64 a) W := fun W => by kernel_rfl
  have p1 : ∀ W : World, (part 3 #[.int .i64 a, .int .i64 b, .int .i64 c, .int .i64 d] 1).run Tryd.prog W = .ok (.int .i64 b) W := fun W => by kernel_rfl
  have p2 : ∀ W : World, (part 3 #[.int .i64 a, .int .i64 b, .int .i64 c, .int .i64 d] 2).run Tryd.prog W = .ok (.int .i64 c) W := fun W => by kernel_rfl
  have p3 : ∀ W : World, (part 3 #[.int .i64 a, .int .i64 b, .int .i64 c, .int .i64 d] 3).run Tryd.prog W = .ok (.int .i64 d) W := fun W => by kernel_rfl
  have he0 : ∀ (d : Nat) (n : Int), (Op.equalIn (d + 1) 3 (.int .i64 n) (.int .i64 n)).run Tryd.prog W = .ok true W := fun d n => by simp [Op.equalIn, run_underlying hi64]
  have he : ∀ n : Int, (Op.equalIn 9998 3 (.int .i64 n) (.int .i64 n)).run Tryd.prog W = .ok true W := fun n => he0 9997 n
  have hr : List.range 4 = [0, 1, 2, 3] := rfl
  rw [hr]
  simp [Op.eqItems, p0, p1, p2, p3, he]
set_option maxRecDepth 100000 in
set_option maxHeartbeats 4000000 in
theorem equal_any {c : Crd} (hs : Sm c) {w : World} {B C : Nat → Prop} {e1 t1 e2 t2 : Value} (h1 : CrdAt w B c e1 t1) (h2 : CrdAt w C c e2 t2) : Calls Tryd.prog 37 #[crdV c e1 t1, crdV c e2 t2] w fun e w' => e = .returned (.bool true) ∧ Kept No w w' := by
  have he := h1.effs
  have he2 := h2.effs
  obtain ⟨ade, cape, rfl⟩ := rd_slice he
  obtain ⟨ade2, cape2, rfl⟩ := rd_slice he2
  obtain ⟨adt, capt, rfl⟩ := h1.trgs.slice
  obtain ⟨adt2, capt2, rfl⟩ := h2.trgs.slice
  have HSE := Lib.hid (fun (W : World) (hk : Kept No w W) => esame_any (l := c.effs) hs.effs (he.no hk) (he2.no hk))
  have H1 := Lib.hid h1
  have H2 := Lib.hid h2
  have HSM := Lib.hid hs
  clear h1 h2 he he2 hs
  have hmana := eq_mana c.o0 c.o1 c.o2 c.o3
  unfold crdV
  go_enter Tryd.func37, Tryd.ntmps37
  go_wp2_with fail
  have hkw : Kept No w ((w.alloc (.cells #[.string (strOf c.name), .int .i64 c.kind, .int .i64 c.o0, .int .i64 c.o1, .int .i64 c.o2, .int .i64 c.o3, .int .i64 c.any, .int .i64 c.makes, .int .i64 c.power, .int .i64 c.tough, .int .i64 c.keys, .slice ade c.effs.length cape, .slice adt c.trgs.length capt, .int .i64 c.rarity] 35)).alloc (.cells #[.string (strOf c.name), .int .i64 c.kind, .int .i64 c.o0, .int .i64 c.o1, .int .i64 c.o2, .int .i64 c.o3, .int .i64 c.any, .int .i64 c.makes, .int .i64 c.power, .int .i64 c.tough, .int .i64 c.keys, .slice ade2 c.effs.length cape2, .slice adt2 c.trgs.length capt2, .int .i64 c.rarity] 35)) := ((Kept.refl No w).alloc _).alloc _
  refine (HSE.out _ hkw).mono ?_
  rintro e W ⟨rfl, q, hq⟩
  have hkW : Kept No w W := by rw [hq]; exact hkw.drewN q
  have o1 : CObj W w.heap.size c (.slice ade c.effs.length cape) (.slice adt c.trgs.length capt) := by rw [hq]; exact obj_alloc (heap_alloc_new w (.cells #[.string (strOf c.name), .int .i64 c.kind, .int .i64 c.o0, .int .i64 c.o1, .int .i64 c.o2, .int .i64 c.o3, .int .i64 c.any, .int .i64 c.makes, .int .i64 c.power, .int .i64 c.tough, .int .i64 c.keys, .slice ade c.effs.length cape, .slice adt c.trgs.length capt, .int .i64 c.rarity] 35)) (.cells #[.string (strOf c.name), .int .i64 c.kind, .int .i64 c.o0, .int .i64 c.o1, .int .i64 c.o2, .int .i64 c.o3, .int .i64 c.any, .int .i64 c.makes, .int .i64 c.power, .int .i64 c.tough, .int .i64 c.keys, .slice ade2 c.effs.length cape2, .slice adt2 c.trgs.length capt2, .int .i64 c.rarity] 35)
  have o2 : CObj W (w.heap.size + 1) c (.slice ade2 c.effs.length cape2) (.slice adt2 c.trgs.length capt2) := by
    rw [hq]
    have := heap_alloc_new (w.alloc (.cells #[.string (strOf c.name), .int .i64 c.kind, .int .i64 c.o0, .int .i64 c.o1, .int .i64 c.o2, .int .i64 c.o3, .int .i64 c.any, .int .i64 c.makes, .int .i64 c.power, .int .i64 c.tough, .int .i64 c.keys, .slice ade c.effs.length cape, .slice adt c.trgs.length capt, .int .i64 c.rarity] 35)) (.cells #[.string (strOf c.name), .int .i64 c.kind, .int .i64 c.o0, .int .i64 c.o1, .int .i64 c.o2, .int .i64 c.o3, .int .i64 c.any, .int .i64 c.makes, .int .i64 c.power, .int .i64 c.tough, .int .i64 c.keys, .slice ade2 c.effs.length cape2, .slice adt2 c.trgs.length capt2, .int .i64 c.rarity] 35)
    rw [show (w.alloc (.cells #[.string (strOf c.name), .int .i64 c.kind, .int .i64 c.o0, .int .i64 c.o1, .int .i64 c.o2, .int .i64 c.o3, .int .i64 c.any, .int .i64 c.makes, .int .i64 c.power, .int .i64 c.tough, .int .i64 c.keys, .slice ade c.effs.length cape, .slice adt c.trgs.length capt, .int .i64 c.rarity] 35)).heap.size = w.heap.size + 1 by simp] at this
    exact this
  obtain ⟨n, hn⟩ : ∃ n, c.trgs.length = n := ⟨_, rfl⟩
  have HN := Lib.hid hn
  have HO1 := Lib.hid o1
  have HO2 := Lib.hid o2
  have HKW := Lib.hid hkW
  have x1 : W.cell? ⟨w.heap.size, 12, none⟩ = some (.slice adt c.trgs.length capt) := obj_cell o1 12
  have x2 : W.cell? ⟨w.heap.size + 1, 12, none⟩ = some (.slice adt2 c.trgs.length capt2) := obj_cell o2 12
  obtain ⟨g1, hg1⟩ : ∃ g, w.heap.size = g := ⟨_, rfl⟩
  rw [hg1] at HO1 HO2 x1 x2 ⊢
  rw [hn] at x1 x2 ⊢
  have hn6 : n ≤ 1000000 := by rw [← hn]; exact HSM.out.trgs
  have HN6 := Lib.hid hn6
  clear hmana hkw hkW o1 o2 hq hn hg1 hn6
  go_wp2_with fail
  go_loopw [5] (fun iv wr => ∃ i : Nat, iv = .int .i64 (i : Nat) ∧ i ≤ n ∧ Kept No W wr) (fun iv _ => n - (intOf iv).toNat)
  case atStart => exact ⟨0, rfl, Nat.zero_le _, Kept.refl No W⟩
  case round =>
    obtain ⟨i, rfl, hi, hk⟩ := hrel
    have HK := Lib.hid hk
    clear x1 x2
    have x1 : wr.cell? ⟨g1, 12, none⟩ = some (.slice adt n capt) := by rw [← HN.out]; exact obj_cell (hk.obj HO1.out (not_no _)) 12
    have x2 : wr.cell? ⟨g1 + 1, 12, none⟩ = some (.slice adt2 n capt2) := by rw [← HN.out]; exact obj_cell (hk.obj HO2.out (not_no _)) 12
    by_cases hlt : i < n
    · have hil : i < c.trgs.length := by rw [HN.out]; exact hlt
      obtain ⟨t, ht⟩ : ∃ t, c.trgs[i]? = some t := ⟨_, List.getElem?_eq_getElem hil⟩
      obtain ⟨b, off, c1, ev1, hs, _, g0, g1c, hE⟩ := (H1.out.trgs.no (HKW.out.and hk)).at ht
      obtain ⟨b', off', c1', ev2, hs', _, k0, k1, hE'⟩ := (H2.out.trgs.no (HKW.out.and hk)).at ht
      rw [HN.out] at hs hs'
      cases hs
      cases hs'
      have HES := Lib.hid (fun m => esame_any (HSM.out.tre t (List.mem_of_getElem? ht)) (hE.no ((Kept.refl No wr).drewN m)) (hE'.no ((Kept.refl No wr).drewN m)))
      have d1 : decide (i < n) = true := decide_eq_true hlt
      have hi0 : (0 : Int) ≤ (i : Int) := by omega
      have hin : (i : Int) < (n : Int) := by omega
      have q4 : IntKind.i64.wrap ((i : Int) + 1) = (i : Int) + 1 := IntWalk.i64_in _ (by have := HN6.out; omega)
      have HI := Lib.hid hlt
      clear hk hlt hil ht hE hE'
      go_wp2_with fail
      go_quiet (first | (go_at_call 57; refine Calls.quiet_of (HES.out _)))
      go_wp2_with fail
      have hI := HI.out
      exact ⟨⟨i + 1, by go_num, by omega, HK.out.drewN _⟩, by simp [intOf]; omega⟩
    · have d1 : decide (i < n) = false := decide_eq_false hlt
      clear hlt hk
      go_wp2_with fail
      go_ret
      exact ⟨rfl, HKW.out.and HK.out⟩
end Go.Proofs.YtclgoilfclmibaaDoor
