/-
  Pool: lists that are alike. Pool: lists of cards that are alike; what is shown, found; pools that are looked at. Pool: the examples. Pool: light cards.
-/
import Derived.Test.YtclgoilfclmibaaGreatDoorQe
import Derived.BigQuiet
import Derived.ChangeKeysEq
set_option linter.unusedVariables false
set_option linter.unusedSimpArgs false
namespace Go.Proofs.YtclgoilfclmibaaGreatDoor
open Go Go.RowKit Go.Zn
attribute [local go_sem] Oper.semAt_some

def IxRel2 (n : Nat) (w : World) (iv : Value) (wr : World) : Prop := ∃ i : Nat, iv = .int .i64 (i : Nat) ∧ i ≤ n ∧ ∃ q, wr = w.drewN q
set_option maxRecDepth 100000 in
theorem esame_any {l : List Eff} (hl : l.length ≤ 1000000) {w : World} {B C : Nat → Prop} {v1 v2 : Value} (h1 : EffsAt w B v1 l) (h2 : EffsAt w C v2 l) : Calls Tryz.prog 68 #[v1, v2] w fun e w' => e = .returned (.bool true) ∧ ∃ q, w' = w.drewN q := by
  obtain ⟨ad1, cap1, rfl⟩ := rd_slice h1
  obtain ⟨ad2, cap2, rfl⟩ := rd_slice h2
  obtain ⟨n, hn⟩ : ∃ n, l.length = n := ⟨_, rfl⟩
  have HN := Lib.hid hn
  have H1 := Lib.hid h1
  have H2 := Lib.hid h2
  rw [hn] at H1 H2 hl ⊢
  clear h1 h2 hn
  go_enter Tryz.func68, Tryz.ntmps68
  go_wp2_with fail
  go_loopw [5] (fun iv wr => IxRel2 n w iv wr) (fun iv _ => n - (intOf iv).toNat)
  case atStart => exact ⟨0, rfl, Nat.zero_le _, 0, (World.drewN_zero w).symm⟩
  case round =>
    obtain ⟨i, rfl, hi, q, rfl⟩ := hrel
    have hk := (Kept.refl No w).drewN q
    by_cases hlt : i < n
    · have hil : i < l.length := by rw [HN.out]; exact hlt
      obtain ⟨e, he⟩ : ∃ e, l[i]? = some e := ⟨_, List.getElem?_eq_getElem hil⟩
      obtain ⟨b, off, c1, hs, g0, g1, g2, g3, g4⟩ := H1.out.at he
      obtain ⟨b', off', c1', hs', k0, k1, k2, k3, k4⟩ := H2.out.at he
      rw [HN.out] at hs hs'
      cases hs
      cases hs'
      have d1 : decide (i < n) = true := decide_eq_true hlt
      have hi0 : (0 : Int) ≤ (i : Int) := by omega
      have hin : (i : Int) < (n : Int) := by omega
      have q4 : IntKind.i64.wrap ((i : Int) + 1) = (i : Int) + 1 := IntWalk.i64_in _ (by omega)
      have HI := Lib.hid hlt
      clear hk hlt hil he
      go_wp2_with fail
      go_quiet (fail)
      go_wp2_with fail
      have hI := HI.out
      exact ⟨⟨i + 1, by go_num, by omega, _, rfl⟩, by simp [intOf]; omega⟩
    · have d1 : decide (i < n) = false := decide_eq_false hlt
      clear hlt hk
      go_wp2_with fail
      go_ret
      exact ⟨rfl, _, rfl⟩
theorem eq_mana (a b c d : Int) (W : World) : (Op.equalIn 9999 38 (.agg #[.int .i64 a, .int .i64 b, .int .i64 c, .int .i64 d]) (.agg #[.int .i64 a, .int .i64 b, .int .i64 c, .int .i64 d])).run Tryz.prog W = .ok true W := by
  have hu : Tryz.prog.underlying 38 = some (.array 4 3) := by kernel_rfl
  obtain ⟨i, hi, hz, hs, hb⟩ := (info_parts (P := Tryz.prog) (e := 3) (z := .int .i64 0) (size := 1) (bytes := 8) (by kernel_rfl))
  have hc : Tryz.prog.cellsOf 3 = 1 := by kernel_rfl
  have hi64 : Tryz.prog.underlying 3 = some (.int .i64) := by kernel_rfl
  rw [show 9999 = 9998 + 1 from rfl, run_equalIn_array W 9998 _ _ hu hi, hc]
  have p0 : ∀ W : World, (part 3 #[.int .i64 a, .int .i64 b, .int .i64 c, .int .i64 d] 0).run Tryz.prog W = .ok (.int .i64 a) W := fun W => by kernel_rfl
  have p1 : ∀ W : World, (part 3 #[.int .i64 a, .int .i64 b, .int .i64 c, .int .i64 d] 1).run Tryz.prog W = .ok (.int .i64 b) W := fun W => by kernel_rfl
  have p2 : ∀ W : World, (part 3 #[.int .i64 a, .int .i64 b, .int .i64 c, .int .i64 d] 2).run Tryz.prog W = .ok (.int .i64 c) W := fun W => by kernel_rfl
  have p3 : ∀ W : World, (part 3 #[.int .i64 a, .int .i64 b, .int .i64 c, .int .i64 d] 3).run Tryz.prog W = .ok (.int .i64 d) W := fun W => by kernel_rfl
  have he0 : ∀ (d : Nat) (n : Int), (Op.equalIn (d + 1) 3 (.int .i64 n) (.int .i64 n)).run Tryz.prog W = .ok true W := fun d n => by simp [Op.equalIn, run_underlying hi64]
  have he : ∀ n : Int, (Op.equalIn 9998 3 (.int .i64 n) (.int .i64 n)).run Tryz.prog W = .ok true W := fun n => he0 9997 n
  have hr : List.range 4 = [0, 1, 2, 3] := rfl
  rw [hr]
  simp [Op.eqItems, p0, p1, p2, p3, he]
set_option maxRecDepth 100000 in
set_option maxHeartbeats 4000000 in
theorem equal_any {c : Crd} (hs : Sm c) {w : World} {B C : Nat → Prop} {e1 t1 e2 t2 : Value} (h1 : CrdAt w B c e1 t1) (h2 : CrdAt w C c e2 t2) : Calls Tryz.prog 44 #[crdV c e1 t1, crdV c e2 t2] w fun e w' => e = .returned (.bool true) ∧ Kept No w w' := by
  have he := h1.effs
  have he2 := h2.effs
  obtain ⟨ade, cape, rfl⟩ := rd_slice he
  obtain ⟨ade2, cape2, rfl⟩ := rd_slice he2
  obtain ⟨adt, capt, rfl⟩ := h1.trgs.slice
  obtain ⟨adt2, capt2, rfl⟩ := h2.trgs.slice
  have HSE := Lib.hid (fun (W : World) (hk : Kept No w W) => esame_any (l := c.effs) hs.effs (he.no hk) (he2.no hk))
  have H1 := Lib.hid h1
  have H2 := Lib.hid h2
  have HSM := Lib.hid hs
  clear h1 h2 he he2 hs
  have hmana := eq_mana c.o0 c.o1 c.o2 c.o3
  unfold crdV
  go_enter Tryz.func44, Tryz.ntmps44
  go_wp2_with fail
  have hkw : Kept No w ((w.alloc (.cells #[.string (strOf c.name), .int .i64 c.kind, .int .i64 c.o0, .int .i64 c.o1, .int .i64 c.o2, .int .i64 c.o3, .int .i64 c.any, .int .i64 c.makes, .int .i64 c.power, .int .i64 c.tough, .int .i64 c.keys, .slice ade c.effs.length cape, .slice adt c.trgs.length capt, .int .i64 c.rarity] 46)).alloc (.cells #[.string (strOf c.name), .int .i64 c.kind, .int .i64 c.o0, .int .i64 c.o1, .int .i64 c.o2, .int .i64 c.o3, .int .i64 c.any, .int .i64 c.makes, .int .i64 c.power, .int .i64 c.tough, .int .i64 c.keys, .slice ade2 c.effs.length cape2, .slice adt2 c.trgs.length capt2, .int .i64 c.rarity] 46)) := ((Kept.refl No w).alloc _).alloc _
  refine (HSE.out _ hkw).mono ?_
  rintro e W ⟨rfl, q, hq⟩
  have hkW : Kept No w W := by rw [hq]; exact hkw.drewN q
  have o1 : CObj W w.heap.size c (.slice ade c.effs.length cape) (.slice adt c.trgs.length capt) := by rw [hq]; exact obj_alloc (heap_alloc_new w (.cells #[.string (strOf c.name), .int .i64 c.kind, .int .i64 c.o0, .int .i64 c.o1, .int .i64 c.o2, .int .i64 c.o3, .int .i64 c.any, .int .i64 c.makes, .int .i64 c.power, .int .i64 c.tough, .int .i64 c.keys, .slice ade c.effs.length cape, .slice adt c.trgs.length capt, .int .i64 c.rarity] 46)) (.cells #[.string (strOf c.name), .int .i64 c.kind, .int .i64 c.o0, .int .i64 c.o1, .int .i64 c.o2, .int .i64 c.o3, .int .i64 c.any, .int .i64 c.makes, .int .i64 c.power, .int .i64 c.tough, .int .i64 c.keys, .slice ade2 c.effs.length cape2, .slice adt2 c.trgs.length capt2, .int .i64 c.rarity] 46)
  have o2 : CObj W (w.heap.size + 1) c (.slice ade2 c.effs.length cape2) (.slice adt2 c.trgs.length capt2) := by
    rw [hq]
    have := heap_alloc_new (w.alloc (.cells #[.string (strOf c.name), .int .i64 c.kind, .int .i64 c.o0, .int .i64 c.o1, .int .i64 c.o2, .int .i64 c.o3, .int .i64 c.any, .int .i64 c.makes, .int .i64 c.power, .int .i64 c.tough, .int .i64 c.keys, .slice ade c.effs.length cape, .slice adt c.trgs.length capt, .int .i64 c.rarity] 46)) (.cells #[.string (strOf c.name), .int .i64 c.kind, .int .i64 c.o0, .int .i64 c.o1, .int .i64 c.o2, .int .i64 c.o3, .int .i64 c.any, .int .i64 c.makes, .int .i64 c.power, .int .i64 c.tough, .int .i64 c.keys, .slice ade2 c.effs.length cape2, .slice adt2 c.trgs.length capt2, .int .i64 c.rarity] 46)
    rw [show (w.alloc (.cells #[.string (strOf c.name), .int .i64 c.kind, .int .i64 c.o0, .int .i64 c.o1, .int .i64 c.o2, .int .i64 c.o3, .int .i64 c.any, .int .i64 c.makes, .int .i64 c.power, .int .i64 c.tough, .int .i64 c.keys, .slice ade c.effs.length cape, .slice adt c.trgs.length capt, .int .i64 c.rarity] 46)).heap.size = w.heap.size + 1 by simp] at this
    exact this
  obtain ⟨n, hn⟩ : ∃ n, c.trgs.length = n := ⟨_, rfl⟩
  have HN := Lib.hid hn
  have HO1 := Lib.hid o1
  have HO2 := Lib.hid o2
  have HKW := Lib.hid hkW
  have x1 : W.cell? ⟨w.heap.size, 12, none⟩ = some (.slice adt c.trgs.length capt) := obj_cell o1 12
  have x2 : W.cell? ⟨w.heap.size + 1, 12, none⟩ = some (.slice adt2 c.trgs.length capt2) := obj_cell o2 12
  obtain ⟨g1, hg1⟩ : ∃ g, w.heap.size = g := ⟨_, rfl⟩
  rw [hg1] at HO1 HO2 x1 x2 ⊢
  rw [hn] at x1 x2 ⊢
  have hn6 : n ≤ 1000000 := by rw [← hn]; exact HSM.out.trgs
  have HN6 := Lib.hid hn6
  clear hmana hkw hkW o1 o2 hq hn hg1 hn6
  go_wp2_with fail
  go_loopw [5] (fun iv wr => ∃ i : Nat, iv = .int .i64 (i : Nat) ∧ i ≤ n ∧ Kept No W wr) (fun iv _ => n - (intOf iv).toNat)
  case atStart => exact ⟨0, rfl, Nat.zero_le _, Kept.refl No W⟩
  case round =>
    obtain ⟨i, rfl, hi, hk⟩ := hrel
    have HK := Lib.hid hk
    clear x1 x2
    have x1 : wr.cell? ⟨g1, 12, none⟩ = some (.slice adt n capt) := by rw [← HN.out]; exact obj_cell (hk.obj HO1.out (not_no _)) 12
    have x2 : wr.cell? ⟨g1 + 1, 12, none⟩ = some (.slice adt2 n capt2) := by rw [← HN.out]; exact obj_cell (hk.obj HO2.out (not_no _)) 12
    by_cases hlt : i < n
    · have hil : i < c.trgs.length := by rw [HN.out]; exact hlt
      obtain ⟨t, ht⟩ : ∃ t, c.trgs[i]? = some t := ⟨_, List.getElem?_eq_getElem hil⟩
      obtain ⟨b, off, c1, ev1, hs, _, g0, g1c, hE⟩ := (H1.out.trgs.no (HKW.out.and hk)).at ht
      obtain ⟨b', off', c1', ev2, hs', _, k0, k1, hE'⟩ := (H2.out.trgs.no (HKW.out.and hk)).at ht
      rw [HN.out] at hs hs'
      cases hs
      cases hs'
      have HES := Lib.hid (fun m => esame_any (HSM.out.tre t (List.mem_of_getElem? ht)) (hE.no ((Kept.refl No wr).drewN m)) (hE'.no ((Kept.refl No wr).drewN m)))
      have d1 : decide (i < n) = true := decide_eq_true hlt
      have hi0 : (0 : Int) ≤ (i : Int) := by omega
      have hin : (i : Int) < (n : Int) := by omega
      have q4 : IntKind.i64.wrap ((i : Int) + 1) = (i : Int) + 1 := IntWalk.i64_in _ (by have := HN6.out; omega)
      have HI := Lib.hid hlt
      clear hk hlt hil ht hE hE'
      go_wp2_with fail
      go_quiet (first | (go_at_call 68; refine Calls.quiet_of (HES.out _)))
      go_wp2_with fail
      have hI := HI.out
      exact ⟨⟨i + 1, by go_num, by omega, HK.out.drewN _⟩, by simp [intOf]; omega⟩
    · have d1 : decide (i < n) = false := decide_eq_false hlt
      clear hlt hk
      go_wp2_with fail
      go_ret
      exact ⟨rfl, HKW.out.and HK.out⟩
end Go.Proofs.YtclgoilfclmibaaGreatDoor
namespace Go.Proofs.YtclgoilfclmibaaGreatDoor
open Go Go.RowKit Go.Zn
attribute [local go_sem] Oper.semAt_some

theorem rng_kept {w w' : World} {b off : Nat} {cs : List Value} (hk : Kept No w w') (h : w.rangeAt b off cs) : w'.rangeAt b off cs := fun j v hj => hk.cell (h j v hj) (not_no _)
theorem nvals_get' (l : List Nat) (j : Nat) : (nvals l)[j]? = (l[j]?).map fun n => Value.int .i64 (n : Nat) := by simp [nvals]
set_option maxRecDepth 100000 in
theorem isame_any {l : List Nat} (hl : l.length ≤ 1000000) {w : World} {B C : Nat → Prop} {v1 v2 : Value} (h1 : Rd w B 1 v1 l.length (nvals l)) (h2 : Rd w C 1 v2 l.length (nvals l)) : Calls Tryz.prog 17 #[v1, v2] w fun e w' => e = .returned (.bool true) ∧ ∃ q, w' = w.drewN q := by
  obtain ⟨ad1, cap1, rfl⟩ := rd_slice h1
  obtain ⟨ad2, cap2, rfl⟩ := rd_slice h2
  obtain ⟨n, hn⟩ : ∃ n, l.length = n := ⟨_, rfl⟩
  have HN := Lib.hid hn
  have H1 := Lib.hid h1
  have H2 := Lib.hid h2
  rw [hn] at H1 H2 hl ⊢
  clear h1 h2 hn
  go_enter Tryz.func17, Tryz.ntmps17
  go_wp2_with fail
  go_loopw [5] (fun iv wr => IxRel2 n w iv wr) (fun iv _ => n - (intOf iv).toNat)
  case atStart => exact ⟨0, rfl, Nat.zero_le _, 0, (World.drewN_zero w).symm⟩
  case round =>
    obtain ⟨i, rfl, hi, q, rfl⟩ := hrel
    by_cases hlt : i < n
    · have hil : i < l.length := by rw [HN.out]; exact hlt
      obtain ⟨_, _, ⟨_, h0⟩ | ⟨b, off, c1, hs, _, _, hc⟩⟩ := H1.out
      · omega
      obtain ⟨_, _, ⟨_, h0⟩ | ⟨b', off', c1', hs', _, _, hc'⟩⟩ := H2.out
      · omega
      obtain ⟨x, hx⟩ : ∃ x, l[i] = x := ⟨_, rfl⟩
      have g0 : w.cell? ⟨b, off + i, none⟩ = some (.int .i64 (x : Nat)) := hc i _ (by rw [nvals_get', List.getElem?_eq_getElem hil, hx]; rfl)
      have k0 : w.cell? ⟨b', off' + i, none⟩ = some (.int .i64 (x : Nat)) := hc' i _ (by rw [nvals_get', List.getElem?_eq_getElem hil, hx]; rfl)
      cases hs
      cases hs'
      have d1 : decide (i < n) = true := decide_eq_true hlt
      have hi0 : (0 : Int) ≤ (i : Int) := by omega
      have hin : (i : Int) < (n : Int) := by omega
      have q4 : IntKind.i64.wrap ((i : Int) + 1) = (i : Int) + 1 := IntWalk.i64_in _ (by omega)
      have HI := Lib.hid hlt
      clear hlt hil hx hc hc'
      go_wp2_with fail
      go_quiet (fail)
      go_wp2_with fail
      have hI := HI.out
      exact ⟨⟨i + 1, by go_num, by omega, _, rfl⟩, by simp [intOf]; omega⟩
    · have d1 : decide (i < n) = false := decide_eq_false hlt
      clear hlt
      go_wp2_with fail
      go_ret
      exact ⟨rfl, _, rfl⟩
set_option maxRecDepth 100000 in
set_option maxHeartbeats 4000000 in
theorem csame_any {l : List Crd} (hl : l.length ≤ 1000000) (hsm : ∀ c ∈ l, Sm c) {w : World} {B C : Nat → Prop} {v1 v2 : Value} (h1 : CrdsAt w B v1 l) (h2 : CrdsAt w C v2 l) : Calls Tryz.prog 30 #[v1, v2] w fun e w' => e = .returned (.bool true) ∧ Kept No w w' := by
  obtain ⟨ad1, cap1, rfl⟩ := h1.slice
  obtain ⟨ad2, cap2, rfl⟩ := h2.slice
  obtain ⟨n, hn⟩ : ∃ n, l.length = n := ⟨_, rfl⟩
  have HN := Lib.hid hn
  have H1 := Lib.hid h1
  have H2 := Lib.hid h2
  have HSM := Lib.hid hsm
  rw [hn] at H1 H2 hl ⊢
  clear h1 h2 hn hsm
  go_enter Tryz.func30, Tryz.ntmps30
  go_wp2_with fail
  go_loopw [5] (fun iv wr => ∃ i : Nat, iv = .int .i64 (i : Nat) ∧ i ≤ n ∧ Kept No w wr) (fun iv _ => n - (intOf iv).toNat)
  case atStart => exact ⟨0, rfl, Nat.zero_le _, Kept.refl No w⟩
  case round =>
    obtain ⟨i, rfl, hi, hk⟩ := hrel
    have HK := Lib.hid hk
    by_cases hlt : i < n
    · have hil : i < l.length := by rw [HN.out]; exact hlt
      obtain ⟨c, hc⟩ : ∃ c, l[i]? = some c := ⟨_, List.getElem?_eq_getElem hil⟩
      obtain ⟨b, off, c1, ev, tv, hs, hcap, hrg, hca⟩ := (H1.out.no hk).at hc
      obtain ⟨b', off', c1', ev', tv', hs', hcap', hrg', hca'⟩ := (H2.out.no hk).at hc
      obtain ⟨ade, cape, rfl⟩ := rd_slice hca.effs
      obtain ⟨adt, capt, rfl⟩ := hca.trgs.slice
      obtain ⟨ade2, cape2, rfl⟩ := rd_slice hca'.effs
      obtain ⟨adt2, capt2, rfl⟩ := hca'.trgs.slice
      rw [HN.out] at hs hs'
      cases hs
      cases hs'
      have HRG := Lib.hid (show wr.rangeAt b (off + i * 14) [.string (strOf c.name), .int .i64 c.kind, .int .i64 c.o0, .int .i64 c.o1, .int .i64 c.o2, .int .i64 c.o3, .int .i64 c.any, .int .i64 c.makes, .int .i64 c.power, .int .i64 c.tough, .int .i64 c.keys, .slice ade c.effs.length cape, .slice adt c.trgs.length capt, .int .i64 c.rarity] from hrg)
      have HRG2 := Lib.hid (show wr.rangeAt b' (off' + i * 14) [.string (strOf c.name), .int .i64 c.kind, .int .i64 c.o0, .int .i64 c.o1, .int .i64 c.o2, .int .i64 c.o3, .int .i64 c.any, .int .i64 c.makes, .int .i64 c.power, .int .i64 c.tough, .int .i64 c.keys, .slice ade2 c.effs.length cape2, .slice adt2 c.trgs.length capt2, .int .i64 c.rarity] from hrg')
      have HEQ := Lib.hid (fun W (hkW : Kept No wr W) => equal_any (HSM.out c (List.mem_of_getElem? hc)) (hca.no hkW) (hca'.no hkW))
      have d1 : decide (i < n) = true := decide_eq_true hlt
      have hi0 : (0 : Int) ≤ (i : Int) := by omega
      have hin : (i : Int) < (n : Int) := by omega
      have q4 : IntKind.i64.wrap ((i : Int) + 1) = (i : Int) + 1 := IntWalk.i64_in _ (by omega)
      have HI := Lib.hid hlt
      clear hk hlt hil hc hrg hrg' hca hca' hcap hcap'
      go_wp2_with fail
      refine wp_region_held_drew (S := (fun W' => Kept No wr W')) (by kernel_rfl) (Kept.refl No wr).drew (fun hHeld => ?_)
      refine wpAnyH_take (i := 0) (v := .slice (some ⟨b, off, none⟩) n cap1) rfl (by kernel_rfl) (by kernel_rfl) (by kernel_rfl) (fun _ _ _ h => h) (Or.inl ⟨by rfl, ?_⟩) (by assumption) ?_
      · intro W2 hSw; skip; go_simp
      simp only [Act.put, List.getElem_toArray, List.getElem_cons_zero, List.getElem_cons_succ, List.setIfInBounds_toArray, List.set_cons_zero, List.set_cons_succ]
      refine wpAnyH_take (i := 1) (v := .int .i64 (i : Nat)) rfl (by kernel_rfl) (by kernel_rfl) (by kernel_rfl) (fun _ _ _ h => h) (Or.inl ⟨by rfl, ?_⟩) (by assumption) ?_
      · intro W2 hSw; skip; go_simp
      simp only [Act.put, List.getElem_toArray, List.getElem_cons_zero, List.getElem_cons_succ, List.setIfInBounds_toArray, List.set_cons_zero, List.set_cons_succ]
      refine wpAnyH_take (i := 2) (v := .pointer (some ⟨b, off + i * 14, none⟩)) rfl (by kernel_rfl) (by kernel_rfl) (by kernel_rfl) (fun _ _ _ h => h) (Or.inl ⟨by rfl, ?_⟩) (by assumption) ?_
      · intro W2 hSw; skip; go_simp
      simp only [Act.put, List.getElem_toArray, List.getElem_cons_zero, List.getElem_cons_succ, List.setIfInBounds_toArray, List.set_cons_zero, List.set_cons_succ]
      refine wpAnyH_take (i := 3) (v := .agg #[.string (strOf c.name), .int .i64 c.kind, .int .i64 c.o0, .int .i64 c.o1, .int .i64 c.o2, .int .i64 c.o3, .int .i64 c.any, .int .i64 c.makes, .int .i64 c.power, .int .i64 c.tough, .int .i64 c.keys, .slice ade c.effs.length cape, .slice adt c.trgs.length capt, .int .i64 c.rarity]) rfl (by kernel_rfl) (by kernel_rfl) (by kernel_rfl) (fun _ _ _ h => h) (yieldsIf_load_mid (by rfl) 46 (.tmp 19) rfl b (off + i * 14) rfl [.string (strOf c.name), .int .i64 c.kind, .int .i64 c.o0, .int .i64 c.o1, .int .i64 c.o2, .int .i64 c.o3, .int .i64 c.any, .int .i64 c.makes, .int .i64 c.power, .int .i64 c.tough, .int .i64 c.keys, .slice ade c.effs.length cape, .slice adt c.trgs.length capt, .int .i64 c.rarity] _ (fun W2 hSw => rng_kept hSw HRG.out) Tryz.underlying46 rfl (by kernel_rfl)) (by assumption) ?_
      simp only [Act.put, List.getElem_toArray, List.getElem_cons_zero, List.getElem_cons_succ, List.setIfInBounds_toArray, List.set_cons_zero, List.set_cons_succ]
      refine wpAnyH_take (i := 4) (v := .slice (some ⟨b', off', none⟩) n cap2) rfl (by kernel_rfl) (by kernel_rfl) (by kernel_rfl) (fun _ _ _ h => h) (Or.inl ⟨by rfl, ?_⟩) (by assumption) ?_
      · intro W2 hSw; skip; go_simp
      simp only [Act.put, List.getElem_toArray, List.getElem_cons_zero, List.getElem_cons_succ, List.setIfInBounds_toArray, List.set_cons_zero, List.set_cons_succ]
      refine wpAnyH_take (i := 5) (v := .int .i64 (i : Nat)) rfl (by kernel_rfl) (by kernel_rfl) (by kernel_rfl) (fun _ _ _ h => h) (Or.inl ⟨by rfl, ?_⟩) (by assumption) ?_
      · intro W2 hSw; skip; go_simp
      simp only [Act.put, List.getElem_toArray, List.getElem_cons_zero, List.getElem_cons_succ, List.setIfInBounds_toArray, List.set_cons_zero, List.set_cons_succ]
      refine wpAnyH_take (i := 6) (v := .pointer (some ⟨b', off' + i * 14, none⟩)) rfl (by kernel_rfl) (by kernel_rfl) (by kernel_rfl) (fun _ _ _ h => h) (Or.inl ⟨by rfl, ?_⟩) (by assumption) ?_
      · intro W2 hSw; skip; go_simp
      simp only [Act.put, List.getElem_toArray, List.getElem_cons_zero, List.getElem_cons_succ, List.setIfInBounds_toArray, List.set_cons_zero, List.set_cons_succ]
      refine wpAnyH_take (i := 7) (v := .agg #[.string (strOf c.name), .int .i64 c.kind, .int .i64 c.o0, .int .i64 c.o1, .int .i64 c.o2, .int .i64 c.o3, .int .i64 c.any, .int .i64 c.makes, .int .i64 c.power, .int .i64 c.tough, .int .i64 c.keys, .slice ade2 c.effs.length cape2, .slice adt2 c.trgs.length capt2, .int .i64 c.rarity]) rfl (by kernel_rfl) (by kernel_rfl) (by kernel_rfl) (fun _ _ _ h => h) (yieldsIf_load_mid (by rfl) 46 (.tmp 23) rfl b' (off' + i * 14) rfl [.string (strOf c.name), .int .i64 c.kind, .int .i64 c.o0, .int .i64 c.o1, .int .i64 c.o2, .int .i64 c.o3, .int .i64 c.any, .int .i64 c.makes, .int .i64 c.power, .int .i64 c.tough, .int .i64 c.keys, .slice ade2 c.effs.length cape2, .slice adt2 c.trgs.length capt2, .int .i64 c.rarity] _ (fun W2 hSw => rng_kept hSw HRG2.out) Tryz.underlying46 rfl (by kernel_rfl)) (by assumption) ?_
      simp only [Act.put, List.getElem_toArray, List.getElem_cons_zero, List.getElem_cons_succ, List.setIfInBounds_toArray, List.set_cons_zero, List.set_cons_succ]
      refine wpAnyH_ready (rs := [8]) (by kernel_rfl) (by simp) ?_
      refine AllReadyH.cons rfl (fun K hK => ?_) AllReadyH.nil
      go_simp
      go_at_call 44
      refine (HEQ.out _ (Kept.refl No wr).drew).mono ?_
      rintro e9 w9 ⟨rfl, hk9⟩
      refine hK.out _ _ ((Kept.refl No wr).drew.and hk9) (fun _ => ?_)
      have HK9 := Lib.hid ((Kept.refl No wr).drew.and hk9)
      have hH9 := HK9.out
      clear hK K hk9
      try simp only [Act.put, List.getElem_toArray, List.getElem_cons_zero, List.getElem_cons_succ, List.setIfInBounds_toArray, List.set_cons_zero, List.set_cons_succ]
      refine wpAnyH_take (i := 9) (v := .bool false) rfl (by kernel_rfl) (by kernel_rfl) (by kernel_rfl) (fun _ _ _ h => h) (Or.inl ⟨by rfl, ?_⟩) (by assumption) ?_
      · intro W2 hSw; skip; go_simp
      simp only [Act.put, List.getElem_toArray, List.getElem_cons_zero, List.getElem_cons_succ, List.setIfInBounds_toArray, List.set_cons_zero, List.set_cons_succ]
      refine wpAnyH_done (by kernel_rfl) ?_ _
      go_wp2_with fail
      have hI := HI.out
      exact ⟨⟨i + 1, by go_num, by omega, HK.out.and HK9.out⟩, by simp [intOf]; omega⟩
    · have d1 : decide (i < n) = false := decide_eq_false hlt
      clear hlt hk
      go_wp2_with fail
      go_ret
      exact ⟨rfl, HK.out⟩
def ShowC (c : Crd) (er : Int) (W : World) (e : Ending) (w' : World) : Prop := ∃ ev2 tv2, e = .returned (.tuple #[crdV c ev2 tv2, .int .i64 er]) ∧ CrdAt w' (fun _ => True) c ev2 tv2 ∧ Kept No W w'
theorem show_no {er : Int} {W : World} {f : FuncId} {args : Array Value} (h : Calls Tryz.prog f args W (CardNo er W)) : Calls Tryz.prog f args W (ShowC zC er W) := h.mono fun e w' ⟨h1, h2⟩ => ⟨.slice none 0 0, .slice none 0 0, h1, ⟨rd_nil _ _ _, ⟨[], rd_nil _ _ _, rfl⟩⟩, h2⟩
theorem show_ok {c : Crd} {W : World} {f : FuncId} {args : Array Value} (h : Calls Tryz.prog f args W (CardOk c W)) : Calls Tryz.prog f args W (ShowC c 0 W) := h.mono fun e w' ⟨ev, tv, h1, h2, h3⟩ => ⟨ev, tv, h1, CrdAt.mono ⟨h2.effs.at, h2.trgs.at⟩ (fun _ _ _ => trivial), h3⟩
set_option maxRecDepth 100000 in
set_option maxHeartbeats 4000000 in
theorem shows_any {c : Crd} (hs : Sm c) {er i : Int} {p : Value} {w : World} {C : Nat → Prop} {ev tv : Value} (h : CrdAt w C c ev tv) (hc : ∀ W, Kept No w W → Calls Tryz.prog 43 #[p, .int .i64 i] W (ShowC c er W)) :
    Calls Tryz.prog 25 #[p, .int .i64 i, crdV c ev tv, .int .i64 er] w fun e w' => e = .returned (.bool true) ∧ Kept No w w' := by
  have he := h.effs
  obtain ⟨ade, cape, rfl⟩ := rd_slice he
  obtain ⟨adt, capt, rfl⟩ := h.trgs.slice
  have HC := Lib.hid hc
  have H := Lib.hid h
  have HSM := Lib.hid hs
  have HK1 := Lib.hid ((Kept.refl No w).alloc (.cells #[.string (strOf c.name), .int .i64 c.kind, .int .i64 c.o0, .int .i64 c.o1, .int .i64 c.o2, .int .i64 c.o3, .int .i64 c.any, .int .i64 c.makes, .int .i64 c.power, .int .i64 c.tough, .int .i64 c.keys, .slice ade c.effs.length cape, .slice adt c.trgs.length capt, .int .i64 c.rarity] 46))
  have HO1 := Lib.hid (show (w.alloc (.cells #[.string (strOf c.name), .int .i64 c.kind, .int .i64 c.o0, .int .i64 c.o1, .int .i64 c.o2, .int .i64 c.o3, .int .i64 c.any, .int .i64 c.makes, .int .i64 c.power, .int .i64 c.tough, .int .i64 c.keys, .slice ade c.effs.length cape, .slice adt c.trgs.length capt, .int .i64 c.rarity] 46)).heap[w.heap.size]? = some (.cells #[.string (strOf c.name), .int .i64 c.kind, .int .i64 c.o0, .int .i64 c.o1, .int .i64 c.o2, .int .i64 c.o3, .int .i64 c.any, .int .i64 c.makes, .int .i64 c.power, .int .i64 c.tough, .int .i64 c.keys, .slice ade c.effs.length cape, .slice adt c.trgs.length capt, .int .i64 c.rarity] 46 (0, 0)) from heap_alloc_new w _)
  clear he h hc hs
  unfold crdV
  go_enter Tryz.func25, Tryz.ntmps25
  go_wp2_with fail
  refine (HC.out _ HK1.out).mono ?_
  rintro e w2 ⟨ev2, tv2, rfl, hca2, hk2⟩
  obtain ⟨ade2, cape2, rfl⟩ := rd_slice hca2.effs
  obtain ⟨adt2, capt2, rfl⟩ := hca2.trgs.slice
  have HK2 := Lib.hid (HK1.out.and hk2)
  have HO2 := Lib.hid (obj_alloc (hk2.obj HO1.out (not_no _)) (.cells #[.string (strOf c.name), .int .i64 c.kind, .int .i64 c.o0, .int .i64 c.o1, .int .i64 c.o2, .int .i64 c.o3, .int .i64 c.any, .int .i64 c.makes, .int .i64 c.power, .int .i64 c.tough, .int .i64 c.keys, .slice ade2 c.effs.length cape2, .slice adt2 c.trgs.length capt2, .int .i64 c.rarity] 46))
  have HO3 := Lib.hid (show (w2.alloc (.cells #[.string (strOf c.name), .int .i64 c.kind, .int .i64 c.o0, .int .i64 c.o1, .int .i64 c.o2, .int .i64 c.o3, .int .i64 c.any, .int .i64 c.makes, .int .i64 c.power, .int .i64 c.tough, .int .i64 c.keys, .slice ade2 c.effs.length cape2, .slice adt2 c.trgs.length capt2, .int .i64 c.rarity] 46)).heap[w2.heap.size]? = some (.cells #[.string (strOf c.name), .int .i64 c.kind, .int .i64 c.o0, .int .i64 c.o1, .int .i64 c.o2, .int .i64 c.o3, .int .i64 c.any, .int .i64 c.makes, .int .i64 c.power, .int .i64 c.tough, .int .i64 c.keys, .slice ade2 c.effs.length cape2, .slice adt2 c.trgs.length capt2, .int .i64 c.rarity] 46 (0, 0)) from heap_alloc_new w2 _)
  have HEQ := Lib.hid (equal_any HSM.out (hca2.no ((Kept.refl No w2).alloc (.cells #[.string (strOf c.name), .int .i64 c.kind, .int .i64 c.o0, .int .i64 c.o1, .int .i64 c.o2, .int .i64 c.o3, .int .i64 c.any, .int .i64 c.makes, .int .i64 c.power, .int .i64 c.tough, .int .i64 c.keys, .slice ade2 c.effs.length cape2, .slice adt2 c.trgs.length capt2, .int .i64 c.rarity] 46))) (H.out.no (HK2.out.alloc (.cells #[.string (strOf c.name), .int .i64 c.kind, .int .i64 c.o0, .int .i64 c.o1, .int .i64 c.o2, .int .i64 c.o3, .int .i64 c.any, .int .i64 c.makes, .int .i64 c.power, .int .i64 c.tough, .int .i64 c.keys, .slice ade2 c.effs.length cape2, .slice adt2 c.trgs.length capt2, .int .i64 c.rarity] 46))))
  clear hk2 hca2
  unfold crdV
  go_wp2_with (first | (with_reducible refine wpList_load_row rfl 46 _ rfl w2.heap.size rfl 46 _ (0, 0) _ HO3.out Tryz.underlying46 rfl (by kernel_rfl) ?_) | (with_reducible refine wpList_load_row rfl 46 _ rfl w.heap.size rfl 46 _ (0, 0) _ HO2.out Tryz.underlying46 rfl (by kernel_rfl) ?_))
  refine HEQ.out.mono ?_
  rintro e w3 ⟨rfl, hk3⟩
  have HK3 := Lib.hid ((HK2.out.alloc (.cells #[.string (strOf c.name), .int .i64 c.kind, .int .i64 c.o0, .int .i64 c.o1, .int .i64 c.o2, .int .i64 c.o3, .int .i64 c.any, .int .i64 c.makes, .int .i64 c.power, .int .i64 c.tough, .int .i64 c.keys, .slice ade2 c.effs.length cape2, .slice adt2 c.trgs.length capt2, .int .i64 c.rarity] 46)).and hk3)
  clear hk3
  go_wp2_with fail
  go_ret
  exact ⟨rfl, HK3.out⟩
set_option maxRecDepth 100000 in
theorem finds_any {p s : Value} {a b : Int} {w : World} (hc : Calls Tryz.prog 31 #[p, s] w fun e w' => e = .returned (.tuple #[.int .i64 a, .int .i64 b]) ∧ w = w') : Calls Tryz.prog 13 #[p, s, .int .i64 a, .int .i64 b] w fun e w' => e = .returned (.bool true) ∧ w' = w := by
  have HC := Lib.hid hc
  clear hc
  go_enter Tryz.func13, Tryz.ntmps13
  go_wp2_with fail
  refine HC.out.mono ?_
  rintro e w2 ⟨rfl, rfl⟩
  go_wp2_with fail
  go_ret
  exact ⟨rfl, rfl⟩
set_option maxRecDepth 100000 in
theorem wrong_any {l : List Crd} (hl : l.length ≤ 1000000) (hsm : ∀ c ∈ l, Sm c) (hw : wrongF l ≠ 0) {w : World} {B : Nat → Prop} {v : Value} (h : CrdsAt w B v l) : Calls Tryz.prog 9 #[.int .i64 (wrongF l), v] w fun e w' => e = .returned (.bool true) ∧ Kept No w w' := by
  have HC := Lib.hid (pnew_any hl hsm h)
  obtain ⟨ad, cap, rfl⟩ := h.slice
  obtain ⟨er, her⟩ : ∃ er, wrongF l = er := ⟨_, rfl⟩
  obtain ⟨n, hn⟩ : ∃ n, l.length = n := ⟨_, rfl⟩
  unfold NewPost at HC
  rw [her] at HC hw ⊢
  rw [hn] at HC ⊢
  clear h hsm hl her hn
  go_enter Tryz.func9, Tryz.ntmps9
  go_wp2_with fail
  refine HC.out.mono ?_
  rintro e w2 ⟨hk, ⟨h0, _⟩ | ⟨_, rfl⟩⟩
  · exact absurd h0 hw
  have HK := Lib.hid hk
  clear hk
  go_wp2_with fail
  go_ret
  exact ⟨rfl, HK.out⟩
set_option maxRecDepth 100000 in
theorem decodes_any {b : List UInt8} (hl : b.length ≤ 1000000) (hw : (pdecF b).1 ≠ 0) {w : World} {B : Nat → Prop} {v : Value} (h : Rd w B 1 v b.length (bts b)) : Calls Tryz.prog 23 #[v, .int .i64 (pdecF b).1] w fun e w' => e = .returned (.bool true) ∧ Kept No w w' := by
  have HC := Lib.hid (pdecode_any hl h)
  obtain ⟨ad, cap, rfl⟩ := rd_slice h
  obtain ⟨q, hq⟩ : ∃ q, pdecF b = q := ⟨_, rfl⟩
  obtain ⟨n, hn⟩ : ∃ n, b.length = n := ⟨_, rfl⟩
  unfold PDecPost at HC
  obtain ⟨er, l⟩ := q
  rw [hq] at HC hw ⊢
  rw [hn] at HC ⊢
  simp only at hw HC ⊢
  clear h hl hq hn
  go_enter Tryz.func23, Tryz.ntmps23
  go_wp2_with fail
  refine HC.out.mono ?_
  rintro e w2 ⟨hk, ⟨h0, _⟩ | ⟨_, rfl⟩⟩
  · exact absurd h0 hw
  have HK := Lib.hid hk
  clear hk
  go_wp2_with fail
  go_ret
  exact ⟨rfl, HK.out⟩
theorem nmAt_at {l : List Crd} (hn : (names l).Nodup) {i : Nat} {c : Crd} (hc : l[i]? = some c) : nmAt l c.name = some i := by
  obtain ⟨hi, he⟩ := List.getElem?_eq_some_iff.1 hc
  unfold nmAt
  rw [List.findIdx?_eq_some_iff_getElem]
  refine ⟨hi, by simp [he], fun j hj => ?_⟩
  have hjl : j < l.length := by omega
  have h1 := (List.pairwise_iff_getElem.1 hn) j i (by simp [names]; omega) (by simp [names]; omega) hj
  simp only [names, List.getElem_map, he] at h1
  simpa using h1
theorem findV_at {l : List Crd} {s : List UInt8} {i : Nat} (h : nmAt l s = some i) : findV l s = .tuple #[.int .i64 (i : Nat), .int .i64 0] := by unfold findV; rw [h]
theorem findV_no {l : List Crd} {s : List UInt8} (h : nmAt l s = none) : findV l s = .tuple #[.int .i64 0, .int .i64 9] := by unfold findV; rw [h]
theorem sm_zC : Sm zC := ⟨by decide, by decide, by decide, fun t ht => (by cases ht), by decide, by decide⟩
theorem zc_at (w : World) : CrdAt w (fun _ => True) zC (.slice none 0 0) (.slice none 0 0) := ⟨rd_nil _ _ _, ⟨[], rd_nil _ _ _, rfl⟩⟩
set_option maxRecDepth 100000 in
set_option maxHeartbeats 4000000 in
theorem looks_any {l : List Crd} (hw : wrongF l = 0) {w : World} {B C : Nat → Prop} {p v : Value} (hp : PoolAt w B p l) (hv : CrdsAt w C v l) : Calls Tryz.prog 11 #[p, v] w fun e w' => e = .returned (.bool true) ∧ Kept No w w' := by
  obtain ⟨h400, hval, hnd⟩ := wrong_out hw
  have hsm : ∀ c ∈ l, Sm c := fun c hc => sm_of_valid (hval c hc)
  have HLEN := Lib.hid (len_any hp)
  have HCARDS := Lib.hid (cards_any hp (by omega) hsm)
  have HP := Lib.hid hp
  have HV := Lib.hid hv
  have HSAME := Lib.hid (fun W V (hk : Kept No w W) (ho : OwnCs W w.heap.size V l) => csame_any (l := l) (by omega) hsm ho.at (hv.no hk))
  have HOUT := Lib.hid (fun W (hk : Kept No w W) (i : Int) (hi : i < 0 ∨ (l.length : Int) ≤ i) => shows_any (p := p) (i := i) (er := 3) sm_zC (zc_at W) (fun W2 hk2 => show_no (card_out (hp.no (hk.and hk2)) hi)))
  have HSM := Lib.hid hsm
  have HND := Lib.hid hnd
  obtain ⟨ad, cap, rfl⟩ := hv.slice
  obtain ⟨g, mm, pv, rfl, hpi⟩ := hp
  obtain ⟨n, hn⟩ : ∃ n, l.length = n := ⟨_, rfl⟩
  have HN := Lib.hid hn
  rw [hn] at HLEN HSAME HOUT HV h400 ⊢
  have HL := Lib.hid h400
  clear hv hw hval hnd hsm hn hpi h400
  go_enter Tryz.func11, Tryz.ntmps11
  go_wp2_with fail
  refine HLEN.out.mono ?_
  rintro e w' ⟨rfl, rfl⟩
  go_wp2_with fail
  refine HCARDS.out.mono ?_
  rintro e w2 ⟨V, rfl, ho, hk2⟩
  have HS2 := Lib.hid (HSAME.out _ _ hk2 ho)
  have HK2 := Lib.hid hk2
  obtain ⟨ad2, cap2, rfl⟩ := ho.at.slice
  clear ho hk2
  go_wp2_with fail
  refine HS2.out.mono ?_
  rintro e w3 ⟨rfl, hk3⟩
  have HK3 := Lib.hid (HK2.out.and hk3)
  clear hk3
  go_wp2_with fail
  refine (HOUT.out _ HK3.out (-1) (Or.inl (by decide))).mono ?_
  rintro e w4 ⟨rfl, hk4⟩
  have HK4 := Lib.hid (HK3.out.and hk4)
  clear hk4
  go_wp2_with fail
  refine (HOUT.out _ HK4.out (n : Nat) (Or.inr (Int.le_refl _))).mono ?_
  rintro e w5 ⟨rfl, hk5⟩
  have HK5 := Lib.hid (HK4.out.and hk5)
  clear hk5
  go_wp2_with fail
  go_loopw [38] (fun iv wr => ∃ i : Nat, iv = .int .i64 (i : Nat) ∧ i ≤ n ∧ Kept No w wr) (fun iv _ => n - (intOf iv).toNat)
  case atStart => exact ⟨0, rfl, Nat.zero_le _, HK5.out⟩
  case round =>
    obtain ⟨i, rfl, hi, hk⟩ := hrel
    have HK := Lib.hid hk
    by_cases hlt : i < n
    · have hil : i < l.length := by rw [HN.out]; exact hlt
      obtain ⟨c, hc⟩ : ∃ c, l[i]? = some c := ⟨_, List.getElem?_eq_getElem hil⟩
      obtain ⟨b, off, c1, ev, tv, hs, hcap, hrg, hca⟩ := (HV.out.no hk).at hc
      obtain ⟨ade, cape, rfl⟩ := rd_slice hca.effs
      obtain ⟨adt, capt, rfl⟩ := hca.trgs.slice
      rw [HN.out] at hs
      cases hs
      have HRG := Lib.hid (show wr.rangeAt b (off + i * 14) [.string (strOf c.name), .int .i64 c.kind, .int .i64 c.o0, .int .i64 c.o1, .int .i64 c.o2, .int .i64 c.o3, .int .i64 c.any, .int .i64 c.makes, .int .i64 c.power, .int .i64 c.tough, .int .i64 c.keys, .slice ade c.effs.length cape, .slice adt c.trgs.length capt, .int .i64 c.rarity] from hrg)
      have hcs := HSM.out c (List.mem_of_getElem? hc)
      have HSH := Lib.hid (shows_any (p := .pointer (some ⟨g, 0, none⟩)) (i := (i : Nat)) (er := 0) hcs hca (fun W2 hk2 => show_ok (card_ok (HP.out.no (hk.and hk2)) hc hcs)))
      have HF := Lib.hid (fun W (hkW : Kept No w W) => finds_any (findV_at (nmAt_at HND.out hc) ▸ find_any (HP.out.no hkW) hcs.name))
      have d1 : decide (i < n) = true := decide_eq_true hlt
      have hi0 : (0 : Int) ≤ (i : Int) := by omega
      have hin : (i : Int) < (n : Int) := by omega
      have q4 : IntKind.i64.wrap ((i : Int) + 1) = (i : Int) + 1 := IntWalk.i64_in _ (by have := HL.out; omega)
      have HI := Lib.hid hlt
      clear hk hlt hil hc hrg hca hcap hcs
      go_wp2_with (with_reducible refine wpList_load_mid rfl 46 _ rfl b (off + i * 14) rfl [.string (strOf c.name), .int .i64 c.kind, .int .i64 c.o0, .int .i64 c.o1, .int .i64 c.o2, .int .i64 c.o3, .int .i64 c.any, .int .i64 c.makes, .int .i64 c.power, .int .i64 c.tough, .int .i64 c.keys, .slice ade c.effs.length cape, .slice adt c.trgs.length capt, .int .i64 c.rarity] _ HRG.out Tryz.underlying46 rfl (by kernel_rfl) ?_)
      refine HSH.out.mono ?_
      rintro e w6 ⟨rfl, hk6⟩
      have x0 : w6.cell? ⟨b, off + i * 14, none⟩ = some (.string (strOf c.name)) := hk6.cell (HRG.out 0 _ rfl) (not_no _)
      have HK6 := Lib.hid (HK.out.and hk6)
      clear hk6
      go_wp2_with fail
      refine (HF.out _ HK6.out).mono ?_
      rintro e w7 ⟨rfl, rfl⟩
      go_wp2_with fail
      have hI := HI.out
      exact ⟨⟨i + 1, by go_num, by omega, HK6.out⟩, by simp [intOf]; omega⟩
    · have d1 : decide (i < n) = false := decide_eq_false hlt
      clear hlt hk
      go_wp2_with fail
      go_ret
      exact ⟨rfl, HK.out⟩
end Go.Proofs.YtclgoilfclmibaaGreatDoor
namespace Go.Proofs.YtclgoilfclmibaaGreatDoor
open Go Go.RowKit Go.Zn
attribute [local go_sem] Oper.semAt_some

def cWell : Crd := ⟨[87, 101, 108, 108], 1, 0, 0, 0, 0, 0, 1, 0, 0, 0, [], [], 1⟩
def eJolt : Eff := ⟨1, 5, 3, 0, 0⟩
def cJolt : Crd := ⟨[74, 111, 108, 116], 4, 1, 0, 0, 0, 0, 0, 0, 0, 0, [eJolt], [], 1⟩
def cBad : Crd := ⟨[], 1, 0, 0, 0, 0, 0, 0, 0, 0, 0, [], [], 1⟩
theorem kn_1 : wrongF [cWell, cJolt] = 0 := by decide
theorem kn_2 : nmAt [cWell, cJolt] [74, 111, 108, 116] = some 1 := by decide
theorem kn_3 : nmAt [cWell, cJolt] [87, 105, 115, 112] = none := by decide
theorem kn_4 : (penc [cWell, cJolt]).length = 47 := by decide
theorem kn_5 : selF [cWell, cJolt] 4 0 = [1] := by decide
theorem kn_6 : selF [cWell, cJolt] 0 1 = [0, 1] := by decide
theorem kn_7 : selF [cWell, cJolt] 4 2 = [] := by decide
theorem kn_8 : sumF [] = 17 := by decide
theorem kn_9 : sumF [1] = 528 := by decide
theorem kn_10 : sumF [0, 2, 1] = 506510 := by decide
theorem kn_11 : wrongF [cWell, cWell] = 11 := by decide
theorem kn_12 : wrongF [cBad] = 2 := by decide
theorem kn_13 : wrongF [] = 0 := by decide
theorem kn_14 : penc [] = [0, 0, 0, 0, 63, 209] := by decide
theorem kn_15 : pdecF [0, 0, 0, 0, 63, 209] = (0, []) := by decide
theorem kn_16 : (pdecF [0, 0, 0, 0, 63, 208]).1 = 10 := by decide
theorem kn_17 : (pdecF [0, 0]).1 = 4 := by decide
theorem crds1 {W : World} {g : Nat} {c : Crd} {e t : Value} (hg : W.heap[g]? = some (.cells (crdCs c e t).toArray 46 (0, 0))) (h1 : CrdAt W (fun _ => True) c e t) : CrdsAt W (fun _ => True) (.slice (some ⟨g, 0, none⟩) 1 1) [c] :=
  ⟨crdCs c e t, (rd_obj hg rfl (by decide) (Nat.le_refl _) (fun j u hj => by rw [List.getElem?_toArray]; exact hj)).mono (fun _ _ _ => trivial), e, t, [], (List.append_nil _).symm, h1, rfl⟩
theorem crds2 {W : World} {g : Nat} {c1 c2 : Crd} {e1 t1 e2 t2 : Value} (hg : W.heap[g]? = some (.cells (crdCs c1 e1 t1 ++ crdCs c2 e2 t2).toArray 46 (0, 0))) (h1 : CrdAt W (fun _ => True) c1 e1 t1) (h2 : CrdAt W (fun _ => True) c2 e2 t2) :
    CrdsAt W (fun _ => True) (.slice (some ⟨g, 0, none⟩) 2 2) [c1, c2] :=
  ⟨crdCs c1 e1 t1 ++ crdCs c2 e2 t2, (rd_obj hg rfl (by decide) (Nat.le_refl _) (fun j u hj => by rw [List.getElem?_toArray]; exact hj)).mono (fun _ _ _ => trivial), e1, t1, crdCs c2 e2 t2, rfl, h1, e2, t2, [], (List.append_nil _).symm, h2, rfl⟩
theorem crd_nil (W : World) {c : Crd} (h1 : c.effs = []) (h2 : c.trgs = []) : CrdAt W (fun _ => True) c (.slice none 0 0) (.slice none 0 0) := by
  refine ⟨?_, ?_⟩
  · rw [h1]; exact rd_nil _ _ _
  · rw [h2]; exact ⟨[], rd_nil _ _ _, rfl⟩
/-- what the examples stand on -/
structure KnS (g : Nat) (w W : World) : Prop where
  well : CObj W g cWell (.slice none 0 0) (.slice none 0 0)
  jolt : CObj W (g + 1 + 1) cJolt (.slice (some ⟨g + 1, 0, none⟩) 1 1) (.slice none 0 0)
  eff : EffsAt W (fun _ => True) (.slice (some ⟨g + 1, 0, none⟩) 1 1) [eJolt]
  kept : Kept No w W
theorem KnS.no {g : Nat} {w W W' : World} (h : KnS g w W) (hk : Kept No W W') : KnS g w W' := ⟨h.well.no hk, h.jolt.no hk, h.eff.no hk, h.kept.and hk⟩
theorem KnS.crds {g : Nat} {w W : World} (h : KnS g w W) {b : Nat} (hb : b = W.heap.size) : CrdsAt (W.alloc (.cells (crdCs cWell (.slice none 0 0) (.slice none 0 0) ++ crdCs cJolt (.slice (some ⟨g + 1, 0, none⟩) 1 1) (.slice none 0 0)).toArray 46)) (fun _ => True) (.slice (some ⟨b, 0, none⟩) 2 2) [cWell, cJolt] := by
  subst hb
  have h2 := h.no ((Kept.refl No W).alloc (.cells (crdCs cWell (.slice none 0 0) (.slice none 0 0) ++ crdCs cJolt (.slice (some ⟨g + 1, 0, none⟩) 1 1) (.slice none 0 0)).toArray 46))
  exact crds2 (heap_alloc_new W _) (crd_nil _ rfl rfl) ⟨h2.eff, ⟨[], rd_nil _ _ _, rfl⟩⟩
theorem rd_no {B : Nat → Prop} {w w' : World} {size : Nat} {v : Value} {n : Nat} {xs : List Value} (h : Rd w B size v n xs) (hk : Kept No w w') : Rd w' B size v n xs := h.kept hk fun _ _ _ => not_no _
theorem same_lit {w : World} {l : List Nat} (hl : l.length ≤ 1000000) {v : Value} {base : Nat} (h : IRow w base v l) : Calls Tryz.prog 17 #[v, .slice (some ⟨w.heap.size, 0, none⟩) l.length l.length] (w.alloc (.cells (nvals l).toArray 3)) fun e w' => e = .returned (.bool true) ∧ Kept No w w' := by
  refine (isame_any (B := fun _ => True) (C := fun _ => True) hl ?_ ?_).mono fun e w' ⟨h1, q, h2⟩ => ⟨h1, by rw [h2]; exact ((Kept.refl No w).alloc _).drewN q⟩
  · exact ((rd_owned h).kept ((Kept.refl No w).alloc _) (fun _ _ _ => not_no _)).mono (fun _ _ _ => trivial)
  · exact (rd_obj (heap_alloc_new w _) (by simp [nvals]) (by simp [maxLen]; omega) (Nat.le_refl _) (fun j u hj => by rw [List.getElem?_toArray]; exact hj)).mono (fun _ _ _ => trivial)
theorem rd_lit (w : World) {l : List UInt8} (hl : l.length ≤ 1000000) : Rd (w.alloc (.cells (bts l).toArray 5)) (fun _ => True) 1 (.slice (some ⟨w.heap.size, 0, none⟩) l.length l.length) l.length (bts l) :=
  (rd_obj (heap_alloc_new w _) (by simp) (by simp [maxLen]; omega) (Nat.le_refl _) (fun j u hj => by rw [List.getElem?_toArray]; exact hj)).mono (fun _ _ _ => trivial)
theorem sum_1 (w : World) : Calls Tryz.prog 21 #[.slice (some ⟨w.heap.size, 0, none⟩) 1 1] (w.alloc (.cells #[.int .u8 1] 5)) fun e w' => e = .returned (.int .u32 528) ∧ Kept No w w' := by
  have h := psum_any (l := [1]) (by decide) (rd_lit w (l := [1]) (by decide))
  rw [kn_9] at h
  exact h.mono fun e w' ⟨h1, h2⟩ => ⟨h1, by rw [h2]; exact (Kept.refl No w).alloc _⟩
theorem sum_3 (w : World) : Calls Tryz.prog 21 #[.slice (some ⟨w.heap.size, 0, none⟩) 3 3] (w.alloc (.cells #[.int .u8 0, .int .u8 2, .int .u8 1] 5)) fun e w' => e = .returned (.int .u32 506510) ∧ Kept No w w' := by
  have h := psum_any (l := [0, 2, 1]) (by decide) (rd_lit w (l := [0, 2, 1]) (by decide))
  rw [kn_10] at h
  exact h.mono fun e w' ⟨h1, h2⟩ => ⟨h1, by rw [h2]; exact (Kept.refl No w).alloc _⟩
theorem sum_0 (w : World) : Calls Tryz.prog 21 #[.slice none 0 0] w fun e w' => e = .returned (.int .u32 17) ∧ Kept No w w' := by
  have h := psum_any (l := []) (by decide) (rd_nil w (fun _ => True) 1)
  rw [kn_8] at h
  exact h.mono fun e w' ⟨h1, h2⟩ => ⟨h1, by rw [h2]; exact Kept.refl No w⟩
theorem wrong_2w (w : World) {v : Value} (h : CrdsAt w (fun _ => True) v [cWell, cWell]) : Calls Tryz.prog 9 #[.int .i64 11, v] w fun e w' => e = .returned (.bool true) ∧ Kept No w w' := by
  have h := wrong_any (l := [cWell, cWell]) (by decide) (fun c hc => by
    have : cvalid c = true := by simp at hc; subst hc; decide
    exact sm_of_valid this) (by rw [kn_11]; decide) h
  rw [kn_11] at h
  exact h
theorem sm_bad : Sm cBad := ⟨by decide, by decide, by decide, fun t ht => (by cases ht), by decide, by decide⟩
theorem wrong_bad (w : World) {v : Value} (h : CrdsAt w (fun _ => True) v [cBad]) : Calls Tryz.prog 9 #[.int .i64 2, v] w fun e w' => e = .returned (.bool true) ∧ Kept No w w' := by
  have h := wrong_any (l := [cBad]) (by decide) (fun c hc => by simp at hc; subst hc; exact sm_bad) (by rw [kn_12]; decide) h
  rw [kn_12] at h
  exact h
theorem dec_208 (w : World) : Calls Tryz.prog 23 #[.slice (some ⟨w.heap.size, 0, none⟩) 6 6, .int .i64 10] (w.alloc (.cells #[.int .u8 0, .int .u8 0, .int .u8 0, .int .u8 0, .int .u8 63, .int .u8 208] 5)) fun e w' => e = .returned (.bool true) ∧ Kept No w w' := by
  have h := decodes_any (b := [0, 0, 0, 0, 63, 208]) (by decide) (by rw [kn_16]; decide) (rd_lit w (l := [0, 0, 0, 0, 63, 208]) (by decide))
  rw [kn_16] at h
  exact h.mono fun e w' ⟨h1, h2⟩ => ⟨h1, ((Kept.refl No w).alloc _).and h2⟩
theorem dec_00 (w : World) : Calls Tryz.prog 23 #[.slice (some ⟨w.heap.size, 0, none⟩) 2 2, .int .i64 4] (w.alloc (.cells #[.int .u8 0, .int .u8 0] 5)) fun e w' => e = .returned (.bool true) ∧ Kept No w w' := by
  have h := decodes_any (b := [0, 0]) (by decide) (by rw [kn_17]; decide) (rd_lit w (l := [0, 0]) (by decide))
  rw [kn_17] at h
  exact h.mono fun e w' ⟨h1, h2⟩ => ⟨h1, ((Kept.refl No w).alloc _).and h2⟩
theorem crds_nil (W : World) : CrdsAt W (fun _ => True) (.slice none 0 0) [] := ⟨[], rd_nil _ _ _, rfl⟩
set_option maxRecDepth 100000 in
theorem kn_start (w : World) : KnS w.heap.size w (((w.alloc (.cells #[.string { data := #[87, 101, 108, 108] }, .int .i64 1, .int .i64 0, .int .i64 0, .int .i64 0, .int .i64 0, .int .i64 0, .int .i64 1, .int .i64 0, .int .i64 0, .int .i64 0, .slice none 0 0, .slice none 0 0, .int .i64 1] 46)).alloc (.cells #[.int .i64 1, .int .i64 5, .int .i64 3, .int .i64 0, .int .i64 0] 50)).alloc (.cells #[.string { data := #[74, 111, 108, 116] }, .int .i64 4, .int .i64 1, .int .i64 0, .int .i64 0, .int .i64 0, .int .i64 0, .int .i64 0, .int .i64 0, .int .i64 0, .int .i64 0, .slice (some ⟨w.heap.size + 1, 0, none⟩) 1 1, .slice none 0 0, .int .i64 1] 46)) := by
  have s1 : (w.alloc (.cells #[.string { data := #[87, 101, 108, 108] }, .int .i64 1, .int .i64 0, .int .i64 0, .int .i64 0, .int .i64 0, .int .i64 0, .int .i64 1, .int .i64 0, .int .i64 0, .int .i64 0, .slice none 0 0, .slice none 0 0, .int .i64 1] 46)).heap.size = w.heap.size + 1 := by simp
  have s2 : ((w.alloc (.cells #[.string { data := #[87, 101, 108, 108] }, .int .i64 1, .int .i64 0, .int .i64 0, .int .i64 0, .int .i64 0, .int .i64 0, .int .i64 1, .int .i64 0, .int .i64 0, .int .i64 0, .slice none 0 0, .slice none 0 0, .int .i64 1] 46)).alloc (.cells #[.int .i64 1, .int .i64 5, .int .i64 3, .int .i64 0, .int .i64 0] 50)).heap.size = w.heap.size + 1 + 1 := by simp
  have h0 := heap_alloc_new w (.cells #[.string { data := #[87, 101, 108, 108] }, .int .i64 1, .int .i64 0, .int .i64 0, .int .i64 0, .int .i64 0, .int .i64 0, .int .i64 1, .int .i64 0, .int .i64 0, .int .i64 0, .slice none 0 0, .slice none 0 0, .int .i64 1] 46)
  have h1 := heap_alloc_new (w.alloc (.cells #[.string { data := #[87, 101, 108, 108] }, .int .i64 1, .int .i64 0, .int .i64 0, .int .i64 0, .int .i64 0, .int .i64 0, .int .i64 1, .int .i64 0, .int .i64 0, .int .i64 0, .slice none 0 0, .slice none 0 0, .int .i64 1] 46)) (.cells #[.int .i64 1, .int .i64 5, .int .i64 3, .int .i64 0, .int .i64 0] 50)
  rw [s1] at h1
  have h2 := heap_alloc_new ((w.alloc (.cells #[.string { data := #[87, 101, 108, 108] }, .int .i64 1, .int .i64 0, .int .i64 0, .int .i64 0, .int .i64 0, .int .i64 0, .int .i64 1, .int .i64 0, .int .i64 0, .int .i64 0, .slice none 0 0, .slice none 0 0, .int .i64 1] 46)).alloc (.cells #[.int .i64 1, .int .i64 5, .int .i64 3, .int .i64 0, .int .i64 0] 50)) (.cells #[.string { data := #[74, 111, 108, 116] }, .int .i64 4, .int .i64 1, .int .i64 0, .int .i64 0, .int .i64 0, .int .i64 0, .int .i64 0, .int .i64 0, .int .i64 0, .int .i64 0, .slice (some ⟨w.heap.size + 1, 0, none⟩) 1 1, .slice none 0 0, .int .i64 1] 46)
  rw [s2] at h2
  refine ⟨obj_alloc (obj_alloc h0 _) _, h2, ?_, (((Kept.refl No w).alloc _).alloc _).alloc _⟩
  exact (rd_obj (obj_alloc h1 _) (n := 1) (size := 5) rfl (by decide) (Nat.le_refl _) (fun j u hj => by
    match j, hj with
    | 0, hj => exact hj
    | 1, hj => exact hj
    | 2, hj => exact hj
    | 3, hj => exact hj
    | 4, hj => exact hj)).mono (fun _ _ _ => trivial)
set_option maxRecDepth 100000 in
set_option maxHeartbeats 8000000 in
theorem known_any (w : World) : Calls Tryz.prog 7 #[] w fun e w' => e = .returned (.bool true) ∧ Kept No w w' := by
  have HS0 := Lib.hid (kn_start w)
  have HNEW := Lib.hid (fun W v (h : CrdsAt W (fun _ => True) v [cWell, cJolt]) => pnew_any (l := [cWell, cJolt]) (by decide) (fun c hc => sm_of_valid ((wrong_out kn_1).2.1 c hc)) h)
  go_enter Tryz.func7, Tryz.ntmps7
  go_wp2_with fail
  refine (HNEW.out _ _ (HS0.out.crds (by simp))).mono ?_
  rintro e w2 ⟨hk2, ⟨_, p, rfl, hp⟩ | ⟨h0, _⟩⟩
  rotate_left
  · exact absurd kn_1 h0
  have hs2 := (HS0.out.no ((Kept.refl No _).alloc _)).no hk2
  have HS2 := Lib.hid hs2
  obtain ⟨g, hg⟩ : ∃ g, w.heap.size = g := ⟨_, rfl⟩
  rw [hg] at HS2 hs2 ⊢
  obtain ⟨pg, pm, pv, rfl, hpis⟩ := hp
  have HP2 := Lib.hid (show PoolAt w2 (fun _ => True) (.pointer (some ⟨pg, 0, none⟩)) [cWell, cJolt] from PoolAt.mono ⟨pg, pm, pv, rfl, hpis⟩ (fun _ _ _ => trivial))
  obtain ⟨m0, m1, m2, m3, m4, m5, m6, m7, m8, m9, m10, m11, m12, m13⟩ := hs2.well.cells
  obtain ⟨n0, n1, n2, n3, n4, n5, n6, n7, n8, n9, n10, n11, n12, n13⟩ := hs2.jolt.cells
  have HG := Lib.hid hg
  clear hk2 hpis hg hs2 HS0
  go_wp2_with fail
  have HF1 := Lib.hid (fun W (hk : Kept No w2 W) => (show Calls Tryz.prog 13 #[.pointer (some ⟨pg, 0, none⟩), .string { data := #[74, 111, 108, 116] }, .int .i64 1, .int .i64 0] W _ from finds_any (s := .string (strOf [74, 111, 108, 116])) (a := 1) (b := 0) (findV_at kn_2 ▸ find_any (HP2.out.no hk) (by decide))))
  have HF2 := Lib.hid (fun W (hk : Kept No w2 W) => (show Calls Tryz.prog 13 #[.pointer (some ⟨pg, 0, none⟩), .string { data := #[87, 105, 115, 112] }, .int .i64 0, .int .i64 9] W _ from finds_any (s := .string (strOf [87, 105, 115, 112])) (a := 0) (b := 9) (findV_no kn_3 ▸ find_any (HP2.out.no hk) (by decide))))
  refine (looks_any kn_1 (HP2.out.no ((Kept.refl No w2).alloc _)) (HS2.out.crds rfl)).mono ?_
  rintro e w3 ⟨rfl, hk⟩
  have HK3 := Lib.hid (((Kept.refl No w2).alloc _).and hk)
  clear hk m0 m1 m2 m3 m4 m5 m6 m7 m8 m9 m10 m11 m12 m13 n0 n1 n2 n3 n4 n5 n6 n7 n8 n9 n10 n11 n12 n13
  go_wp2_with fail
  refine (HF1.out _ HK3.out).mono ?_
  rintro e w4 ⟨rfl, rfl⟩
  go_wp2_with fail
  refine (HF2.out _ HK3.out).mono ?_
  rintro e w5 ⟨rfl, rfl⟩
  go_wp2_with fail
  refine (pencode_any (HP2.out.no HK3.out) kn_1).mono ?_
  rintro e w6 ⟨vb, rfl, hb, hk⟩
  obtain ⟨adb, cpb, rfl⟩ := owned_slice hb
  rw [kn_4]
  have HK6 := Lib.hid (HK3.out.and hk)
  clear hb hk
  go_wp2_with fail
  refine (select_any 4 0 (HP2.out.no HK6.out) (by decide)).mono ?_
  rintro e w7 ⟨v7, rfl, h7, hk⟩
  rw [kn_5] at h7
  have HK7 := Lib.hid (HK6.out.and hk)
  obtain ⟨ad7, cp7, rfl⟩ := owned_slice h7
  have H7 := Lib.hid h7
  clear h7 hk
  go_wp2_with fail
  refine (same_lit (l := [1]) (by decide) H7.out).mono ?_
  rintro e w8 ⟨rfl, hk⟩
  have HK8 := Lib.hid (HK7.out.and hk)
  clear hk
  go_wp2_with fail
  refine (select_any 0 1 (HP2.out.no HK8.out) (by decide)).mono ?_
  rintro e w9 ⟨v9, rfl, h9, hk⟩
  rw [kn_6] at h9
  have HK9 := Lib.hid (HK8.out.and hk)
  obtain ⟨ad9, cp9, rfl⟩ := owned_slice h9
  have H9 := Lib.hid h9
  clear h9 hk
  go_wp2_with fail
  refine (same_lit (l := [0, 1]) (by decide) H9.out).mono ?_
  rintro e w10 ⟨rfl, hk⟩
  have HK10 := Lib.hid (HK9.out.and hk)
  clear hk
  go_wp2_with fail
  refine (select_any 4 2 (HP2.out.no HK10.out) (by decide)).mono ?_
  rintro e w11 ⟨v11, rfl, h11, hk⟩
  rw [kn_7] at h11
  have HK11 := Lib.hid (HK10.out.and hk)
  obtain ⟨ad11, cp11, rfl⟩ := owned_slice h11
  clear h11 hk
  go_wp2_with fail
  refine (shows_any (p := .pointer (some ⟨pg, 0, none⟩)) (i := 2) (er := 3) sm_zC (zc_at _) (fun W2 hk2 => show_no (card_out (HP2.out.no (HK11.out.and hk2)) (Or.inr (by decide))))).mono ?_
  rintro e w12 ⟨rfl, hk⟩
  have HK12 := Lib.hid (HK11.out.and hk)
  clear hk
  go_wp2_with fail
  refine (sum_0 _).mono ?_
  rintro e w13 ⟨rfl, hk⟩
  have HK13 := Lib.hid (HK12.out.and hk)
  clear hk
  go_wp2_with fail
  refine (sum_1 _).mono ?_
  rintro e w14 ⟨rfl, hk⟩
  have HK14 := Lib.hid (HK13.out.and hk)
  clear hk
  go_wp2_with fail
  refine (sum_3 _).mono ?_
  rintro e w15 ⟨rfl, hk⟩
  have HK15 := Lib.hid (HK14.out.and hk)
  have hs15 := HS2.out.no HK15.out
  obtain ⟨m0, m1, m2, m3, m4, m5, m6, m7, m8, m9, m10, m11, m12, m13⟩ := hs15.well.cells
  clear hk hs15
  go_wp2_with fail
  refine (wrong_2w _ (crds2 (heap_alloc_new w15 _) (crd_nil _ rfl rfl) (crd_nil _ rfl rfl))).mono ?_
  rintro e w16 ⟨rfl, hk⟩
  have HK16 := Lib.hid ((HK15.out.alloc _).and hk)
  clear hk m0 m1 m2 m3 m4 m5 m6 m7 m8 m9 m10 m11 m12 m13
  go_wp2_with fail
  refine (wrong_bad _ (crds1 (heap_alloc_new w16 _) (crd_nil _ rfl rfl))).mono ?_
  rintro e w17 ⟨rfl, hk⟩
  have HK17 := Lib.hid ((HK16.out.alloc _).and hk)
  clear hk
  go_wp2_with fail
  refine (pnew_any (l := []) (by decide) (fun c hc => by cases hc) (crds_nil _)).mono ?_
  rintro e w18 ⟨hk, ⟨_, p2, rfl, hp⟩ | ⟨h0, _⟩⟩
  rotate_left
  · exact absurd kn_13 h0
  have HK18 := Lib.hid (HK17.out.and hk)
  obtain ⟨pg2, pm2, pv2, rfl, hpis⟩ := hp
  have HP18 := Lib.hid (show PoolAt w18 (fun _ => True) (.pointer (some ⟨pg2, 0, none⟩)) [] from PoolAt.mono ⟨pg2, pm2, pv2, rfl, hpis⟩ (fun _ _ _ => trivial))
  clear hk hpis
  go_wp2_with fail
  have HR0 := Lib.hid (rd_lit w18 (l := [0, 0, 0, 0, 63, 209]) (by decide))
  obtain ⟨W18, hW18⟩ : ∃ W, w18.alloc (.cells #[.int .u8 0, .int .u8 0, .int .u8 0, .int .u8 0, .int .u8 63, .int .u8 209] 5) = W := ⟨_, rfl⟩
  have HR0 := Lib.hid (show Rd W18 (fun _ => True) 1 (.slice (some ⟨w18.heap.size, 0, none⟩) 6 6) 6 (bts [0, 0, 0, 0, 63, 209]) from hW18 ▸ HR0.out)
  have HKa := Lib.hid (show Kept No w18 W18 by rw [← hW18]; exact (Kept.refl No w18).alloc _)
  obtain ⟨b0, hb0⟩ : ∃ b0, w18.heap.size = b0 := ⟨_, rfl⟩
  rw [hb0] at HR0
  rw [hW18, hb0]
  refine (pencode_any (HP18.out.no HKa.out) kn_13).mono ?_
  rintro e w19 ⟨vb, rfl, hb, hk⟩
  rw [kn_14] at hb
  obtain ⟨adx, cpx, rfl⟩ := owned_slice hb
  have HB19 := Lib.hid (show w19.ownsRow W18.heap.size 5 1 (.slice adx 6 cpx) 6 (bts [0, 0, 0, 0, 63, 209]) from hb)
  have HKb := Lib.hid hk
  clear hb hk hW18 hb0
  go_wp2_with fail
  refine (pdecode_any (b := [0, 0, 0, 0, 63, 209]) (by decide) (rd_no HR0.out HKb.out)).mono ?_
  rintro e w20 ⟨hk, hq⟩
  rw [kn_15] at hq
  obtain ⟨_, p3, rfl, hp3⟩ | ⟨h0, _⟩ := hq
  rotate_left
  · exact absurd rfl h0
  obtain ⟨pg3, pm3, pv3, rfl, hpis⟩ := hp3
  have HP20 := Lib.hid (show PoolAt w20 (fun _ => True) (.pointer (some ⟨pg3, 0, none⟩)) [] from PoolAt.mono ⟨pg3, pm3, pv3, rfl, hpis⟩ (fun _ _ _ => trivial))
  have HK20 := Lib.hid (HK18.out.and (HKa.out.and (HKb.out.and hk)))
  have hcv1 := run_string_rd (P := Tryz.prog) Tryz.underlying51 Tryz.underlying5 Tryz.underlying9 (rd_no (rd_owned HB19.out) hk)
  have hcv2 := run_string_rd (P := Tryz.prog) Tryz.underlying51 Tryz.underlying5 Tryz.underlying9 (rd_no HR0.out (HKb.out.and hk))
  clear hk hpis
  go_wp2_with fail
  refine (looks_any kn_13 HP20.out (crds_nil w20)).mono ?_
  rintro e w21 ⟨rfl, hk⟩
  have HK21 := Lib.hid (HK20.out.and hk)
  clear hk hcv1 hcv2
  go_wp2_with fail
  refine (dec_208 _).mono ?_
  rintro e w22 ⟨rfl, hk⟩
  have HK22 := Lib.hid (HK21.out.and hk)
  clear hk
  go_wp2_with fail
  refine (dec_00 _).mono ?_
  rintro e w23 ⟨rfl, hk⟩
  have HK23 := Lib.hid (HK22.out.and hk)
  clear hk
  go_wp2_with fail
  go_ret
  exact ⟨rfl, HS2.out.kept.and HK23.out⟩
end Go.Proofs.YtclgoilfclmibaaGreatDoor
namespace Go.Proofs.YtclgoilfclmibaaGreatDoor
open Go Go.RowKit Go.Zn
attribute [local go_sem] Oper.semAt_some

def lightC (c : Crd) : Bool := decide (c.name.length ≤ 100) && (decide (c.effs.length ≤ 10) && (decide (c.trgs.length ≤ 5) && c.trgs.all fun t => decide (t.effs.length ≤ 10)))
def lightF (l : List Crd) : Bool := decide (l.length ≤ 30) && l.all lightC
theorem lightC_no {c : Crd} (h : 100 < c.name.length ∨ 10 < c.effs.length ∨ 5 < c.trgs.length ∨ ∃ t ∈ c.trgs, 10 < t.effs.length) : lightC c = false := by
  unfold lightC
  rcases h with h | h | h | ⟨t, ht, h⟩
  · rw [decide_eq_false (by omega)]; rfl
  · rw [decide_eq_false (p := c.effs.length ≤ 10) (by omega)]; simp
  · rw [decide_eq_false (p := c.trgs.length ≤ 5) (by omega)]; simp
  · have : (c.trgs.all fun t => decide (t.effs.length ≤ 10)) = false := by
      rw [List.all_eq_false]
      exact ⟨t, ht, by simp; omega⟩
    rw [this]; simp
theorem lightF_no {l : List Crd} {c : Crd} (hc : c ∈ l) (h : lightC c = false) : lightF l = false := by
  unfold lightF
  have : l.all lightC = false := by rw [List.all_eq_false]; exact ⟨c, hc, by simp [h]⟩
  rw [this]; simp
theorem lightF_out {l : List Crd} (h : lightF l = true) : l.length ≤ 30 ∧ ∀ c ∈ l, c.name.length ≤ 100 ∧ c.effs.length ≤ 10 ∧ c.trgs.length ≤ 5 ∧ ∀ t ∈ c.trgs, t.effs.length ≤ 10 := by
  unfold lightF lightC at h
  simpa using h
def LtRel (l : List Crd) (w : World) (iv : Value) (wr : World) : Prop := ∃ i : Nat, iv = .int .i64 (i : Nat) ∧ i ≤ l.length ∧ (∀ c ∈ l.take i, lightC c = true) ∧ Kept No w wr
set_option maxRecDepth 100000 in
set_option maxHeartbeats 4000000 in
theorem light_any {l : List Crd} {w : World} {B : Nat → Prop} {v : Value} (h : CrdsAt w B v l) : Calls Tryz.prog 6 #[v] w fun e w' => e = .returned (.bool (lightF l)) ∧ Kept No w w' := by
  obtain ⟨ad, cap, rfl⟩ := h.slice
  have HP := Lib.hid h
  obtain ⟨n, hn⟩ : ∃ n, l.length = n := ⟨_, rfl⟩
  have HN := Lib.hid hn
  rw [hn] at HP ⊢
  by_cases h30 : 30 < n
  · have h1 : (30 : Int) < (n : Int) := by omega
    have HR := Lib.hid (show lightF l = false by unfold lightF; rw [hn, decide_eq_false (by omega)]; rfl)
    clear h hn h30
    go_enter Tryz.func6, Tryz.ntmps6
    go_wp2_with fail
    go_ret
    exact ⟨by rw [HR.out]; rfl, Kept.refl No w⟩
  have h1 : ¬ ((30 : Int) < (n : Int)) := by omega
  have H30 := Lib.hid (show n ≤ 30 by omega)
  clear h hn h30
  go_enter Tryz.func6, Tryz.ntmps6
  go_wp2_with fail
  go_loopw [12] (fun iv wr => LtRel l w iv wr) (fun iv _ => n - (intOf iv).toNat)
  case atStart => exact ⟨0, rfl, Nat.zero_le _, by simp, Kept.refl No w⟩
  case round =>
    obtain ⟨i, rfl, hi, hf, hk⟩ := hrel
    rw [HN.out] at hi
    have HK := Lib.hid hk
    have HF := Lib.hid hf
    by_cases hlt : i < n
    · have hil : i < l.length := by rw [HN.out]; exact hlt
      obtain ⟨c, hc⟩ : ∃ c, l[i]? = some c := ⟨_, List.getElem?_eq_getElem hil⟩
      obtain ⟨b, off, cap1, ev, tv, hs, hcap, hrg, hca⟩ := (HP.out.no hk).at hc
      obtain ⟨ade, cape, rfl⟩ := rd_slice hca.effs
      obtain ⟨adt, capt, rfl⟩ := hca.trgs.slice
      rw [HN.out] at hs
      cases hs
      have hmem := List.mem_of_getElem? hc
      have HMEM := Lib.hid hmem
      have HTK := Lib.hid (show l.take (i + 1) = l.take i ++ [c] by rw [List.take_add_one, hc]; rfl)
      have HCA := Lib.hid hca
      obtain ⟨ne, hne⟩ : ∃ n, c.effs.length = n := ⟨_, rfl⟩
      obtain ⟨nt, hnt⟩ : ∃ n, c.trgs.length = n := ⟨_, rfl⟩
      obtain ⟨nn, hnn⟩ : ∃ n, c.name.length = n := ⟨_, rfl⟩
      have HRG := Lib.hid (show wr.rangeAt b (off + i * 14) [.string (strOf c.name), .int .i64 c.kind, .int .i64 c.o0, .int .i64 c.o1, .int .i64 c.o2, .int .i64 c.o3, .int .i64 c.any, .int .i64 c.makes, .int .i64 c.power, .int .i64 c.tough, .int .i64 c.keys, .slice ade ne cape, .slice adt nt capt, .int .i64 c.rarity] from by rw [← hne, ← hnt]; exact hrg)
      have hsz : (strOf c.name).size = nn := by rw [strOf_size]; exact hnn
      have HNE := Lib.hid hne
      have HNT := Lib.hid hnt
      have HNN := Lib.hid hnn
      rw [hne, hnt] at HCA
      have d1 : decide (i < n) = true := decide_eq_true hlt
      have hi0 : (0 : Int) ≤ (i : Int) := by omega
      have hin : (i : Int) < (n : Int) := by omega
      have q4 : IntKind.i64.wrap ((i : Int) + 1) = (i : Int) + 1 := IntWalk.i64_in _ (by have := H30.out; omega)
      have HI := Lib.hid hlt
      clear hk hf hlt hil hc hrg hca hcap hmem hne hnt hnn
      by_cases e1 : 100 < nn
      · have t1 : (100 : Int) < (nn : Int) := by omega
        have HR := Lib.hid (lightF_no HMEM.out (lightC_no (Or.inl (by rw [HNN.out]; exact e1))))
        clear e1
        go_wp2_with (with_reducible refine wpList_load_mid rfl 46 _ rfl b (off + i * 14) rfl _ _ HRG.out Tryz.underlying46 rfl (by kernel_rfl) ?_)
        go_ret
        exact ⟨by rw [HR.out]; rfl, HK.out.alloc _⟩
      have t1 : ¬ ((100 : Int) < (nn : Int)) := by omega
      by_cases e2 : 10 < ne
      · have t2 : (10 : Int) < (ne : Int) := by omega
        have HR := Lib.hid (lightF_no HMEM.out (lightC_no (Or.inr (Or.inl (by rw [HNE.out]; exact e2)))))
        clear e1 e2
        go_wp2_with (with_reducible refine wpList_load_mid rfl 46 _ rfl b (off + i * 14) rfl _ _ HRG.out Tryz.underlying46 rfl (by kernel_rfl) ?_)
        go_ret
        exact ⟨by rw [HR.out]; rfl, HK.out.alloc _⟩
      have t2 : ¬ ((10 : Int) < (ne : Int)) := by omega
      by_cases e3 : 5 < nt
      · have t3 : (5 : Int) < (nt : Int) := by omega
        have HR := Lib.hid (lightF_no HMEM.out (lightC_no (Or.inr (Or.inr (Or.inl (by rw [HNT.out]; exact e3))))))
        clear e1 e2 e3
        go_wp2_with (with_reducible refine wpList_load_mid rfl 46 _ rfl b (off + i * 14) rfl _ _ HRG.out Tryz.underlying46 rfl (by kernel_rfl) ?_)
        go_ret
        exact ⟨by rw [HR.out]; rfl, HK.out.alloc _⟩
      have t3 : ¬ ((5 : Int) < (nt : Int)) := by omega
      have E := Lib.hid (And.intro (show nn ≤ 100 by omega) (And.intro (show ne ≤ 10 by omega) (show nt ≤ 5 by omega)))
      have HKA := Lib.hid ((Kept.refl No wr).alloc (.cells #[.string (strOf c.name), .int .i64 c.kind, .int .i64 c.o0, .int .i64 c.o1, .int .i64 c.o2, .int .i64 c.o3, .int .i64 c.any, .int .i64 c.makes, .int .i64 c.power, .int .i64 c.tough, .int .i64 c.keys, .slice ade ne cape, .slice adt nt capt, .int .i64 c.rarity] 46))
      clear e1 e2 e3
      go_wp2_with (with_reducible refine wpList_load_mid rfl 46 _ rfl b (off + i * 14) rfl _ _ HRG.out Tryz.underlying46 rfl (by kernel_rfl) ?_)
      go_loopw [35] (fun iv W => ∃ j : Nat, iv = .int .i64 (j : Nat) ∧ j ≤ nt ∧ (∀ t ∈ c.trgs.take j, t.effs.length ≤ 10) ∧ Kept No w W ∧ CrdAt W B c (.slice ade ne cape) (.slice adt nt capt)) (fun iv _ => nt - (intOf iv).toNat)
      case atStart => exact ⟨0, rfl, Nat.zero_le _, by simp, HK.out.alloc _, HCA.out.no HKA.out⟩
      case round =>
        obtain ⟨j, rfl, hj, hf, hk, hca⟩ := hrel
        have HKJ := Lib.hid hk
        have HCJ := Lib.hid hca
        have HFJ := Lib.hid hf
        by_cases hlt : j < nt
        · have hil : j < c.trgs.length := by rw [HNT.out]; exact hlt
          obtain ⟨t, ht⟩ : ∃ t, c.trgs[j]? = some t := ⟨_, List.getElem?_eq_getElem hil⟩
          obtain ⟨b', off', c1', ev', hs', _, k0, k1, hE⟩ := hca.trgs.at ht
          obtain ⟨adf, cpf, rfl⟩ := rd_slice hE
          rw [HNT.out] at hs'
          cases hs'
          have HTJ := Lib.hid (show c.trgs.take (j + 1) = c.trgs.take j ++ [t] by rw [List.take_add_one, ht]; rfl)
          have HMT := Lib.hid (List.mem_of_getElem? ht)
          obtain ⟨nf, hnf⟩ : ∃ n, t.effs.length = n := ⟨_, rfl⟩
          have HNF := Lib.hid hnf
          rw [hnf] at k1
          have d5 : decide (j < nt) = true := decide_eq_true hlt
          have hj0 : (0 : Int) ≤ (j : Int) := by omega
          have hjn : (j : Int) < (nt : Int) := by omega
          have q5 : IntKind.i64.wrap ((j : Int) + 1) = (j : Int) + 1 := IntWalk.i64_in _ (by have := E.out; omega)
          have HJ := Lib.hid hlt
          clear hk hca hf hlt hil ht hE hnf
          by_cases e4 : 10 < nf
          · have t4 : (10 : Int) < (nf : Int) := by omega
            have HR := Lib.hid (lightF_no HMEM.out (lightC_no (Or.inr (Or.inr (Or.inr ⟨t, HMT.out, by rw [HNF.out]; exact e4⟩)))))
            clear e4
            go_wp2_with fail
            go_ret
            exact ⟨by rw [HR.out]; rfl, HKJ.out.alloc _⟩
          · have t4 : ¬ ((10 : Int) < (nf : Int)) := by omega
            have H4 := Lib.hid (show nf ≤ 10 by omega)
            clear e4
            go_wp2_with fail
            have hJ := HJ.out
            refine ⟨⟨j + 1, by go_num, by omega, fun x hx => ?_, HKJ.out.alloc _, HCJ.out.no ((Kept.refl No _).alloc _)⟩, by simp [intOf]; omega⟩
            rw [HTJ.out] at hx
            rcases List.mem_append.1 hx with hx | hx
            · exact HFJ.out x hx
            · simp at hx; subst hx; rw [HNF.out]; exact H4.out
        · have d5 : decide (j < nt) = false := decide_eq_false hlt
          have HLC := Lib.hid (show lightC c = true by
            have h1 := HFJ.out
            rw [List.take_of_length_le (by rw [HNT.out]; omega)] at h1
            have h2 := E.out
            unfold lightC
            rw [HNN.out, HNE.out, HNT.out, decide_eq_true h2.1, decide_eq_true h2.2.1, decide_eq_true h2.2.2]
            simpa using h1)
          clear hk hca hf hlt
          go_wp2_with fail
          have hI := HI.out
          refine ⟨⟨i + 1, by go_num, by rw [HN.out]; omega, fun x hx => ?_, HKJ.out⟩, by simp [intOf]; omega⟩
          rw [HTK.out] at hx
          rcases List.mem_append.1 hx with hx | hx
          · exact HF.out x hx
          · simp at hx; subst hx; exact HLC.out
    · have d1 : decide (i < n) = false := decide_eq_false hlt
      have HR := Lib.hid (show lightF l = true by
        have h1 := HF.out
        rw [List.take_of_length_le (by rw [HN.out]; omega)] at h1
        unfold lightF
        rw [HN.out, decide_eq_true H30.out]
        simpa using h1)
      clear hlt hk hf
      go_wp2_with fail
      go_ret
      exact ⟨by rw [HR.out]; rfl, HK.out⟩
end Go.Proofs.YtclgoilfclmibaaGreatDoor
