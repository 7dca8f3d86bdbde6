/-
  Pool: a card as bytes.
-/
import Derived.Test.YtclgoilfclmibaaGreatDoorEn
import Derived.Test.YtclgoilfclmibaaGreatDoorLibR
import Derived.Deep.RegionLaw
set_option linter.unusedVariables false
set_option linter.unusedSimpArgs false
namespace Go.Proofs.YtclgoilfclmibaaGreatDoor
open Go.RowKit Go.Zn
attribute [local go_sem] Oper.semAt_some

/-- where a card's bytes stand: the bytes so far, the card's own box, what was there -/
structure EcS (c : Crd) (w : World) (ev tv : Value) (bs : List UInt8) (ov : Value) (W : World) : Prop where
  row : BRow W (w.heap.size + 1) ov bs
  obj : CObj W w.heap.size c ev tv
  kept : Kept No w W
theorem EcS.no {c : Crd} {w W W' : World} {ev tv ov : Value} {bs : List UInt8} (h : EcS c w ev tv bs ov W) (hk : Kept No W W') : EcS c w ev tv bs ov W' := ⟨owned_kept h.row hk fun _ _ _ => not_no _, h.obj.no hk, h.kept.and hk⟩
theorem EcS.app {c : Crd} {w W W1 W2 : World} {ev tv ov v2 : Value} {bs news : List UInt8} {m k : Nat} (h : EcS c w ev tv bs ov W) (hk : Kept No W W1) (hm : m = bs.length) (hk2 : k = news.length)
    (hown : W2.ownsRow (w.heap.size + 1) 5 1 v2 (m + k) (bts bs ++ bts news)) (hg : W1.grownBy W2 ov.ownBlock) : EcS c w ev tv (bs ++ news) v2 W2 := by
  subst hm hk2
  have hb : ∀ k, ov.ownBlock = some k → w.heap.size + 1 ≤ k := fun k e => (h.row.lt k e).1
  have hkS : Kept (fun k => ov.ownBlock = some k) W W2 := hk.any.grown hg fun k e _ => e
  refine ⟨?_, hkS.obj h.obj fun e => by have := hb _ e; omega, h.kept.trans hkS (fun _ _ e => e) fun i hi e => by have := hb _ e; omega⟩
  show W2.ownsRow _ _ _ _ _ _
  rw [List.length_append, bts_app]
  exact hown
def oB (c : Crd) : List UInt8 := [bt c.o0, bt c.o1, bt c.o2, bt c.o3]
def zB (c : Crd) : List UInt8 := [bt c.any, bt c.makes, bt c.power, bt c.tough, bt c.keys]
def EcM (c : Crd) (w : World) (ev tv : Value) (ov iv : Value) (wr : World) : Prop := ∃ k : Nat, iv = .int .i64 (k : Nat) ∧ k ≤ 4 ∧ EcS c w ev tv (cB1 c ++ c.name ++ (oB c).take k) ov wr
def EcT (c : Crd) (w : World) (ev tv : Value) (ov iv : Value) (wr : World) : Prop := ∃ i : Nat, iv = .int .i64 (i : Nat) ∧ i ≤ c.trgs.length ∧ EcS c w ev tv (cB1 c ++ c.name ++ cB2 c ++ eenc c.effs ++ bt (c.trgs.length : Nat) :: (c.trgs.take i).flatMap tB) ov wr
theorem ec_len (c : Crd) (hn : c.name.length ≤ 1000000) (k : Nat) : (cB1 c ++ c.name ++ (oB c).take k).length ≤ 1000010 := by
  simp only [List.length_append, List.length_take, cB1, oB, List.length_cons, List.length_nil]; omega
theorem ec_up {c : Crd} {i : Nat} {t : Trg} (ht : c.trgs[i]? = some t) : cB1 c ++ c.name ++ cB2 c ++ eenc c.effs ++ bt (c.trgs.length : Nat) :: (c.trgs.take (i + 1)).flatMap tB = cB1 c ++ c.name ++ cB2 c ++ eenc c.effs ++ bt (c.trgs.length : Nat) :: (c.trgs.take i).flatMap tB ++ [bt t.when] ++ eenc t.effs := by
  rw [List.take_add_one, ht]
  simp [tB]
theorem tB_len : ∀ {l : List Trg}, (∀ t ∈ l, trgIn t) → (l.flatMap tB).length ≤ 22 * l.length
  | [], _ => by simp
  | t :: l, h => by
    have h1 := (allE_out (h t (by simp)).2.2).1
    have h2 := tB_len (l := l) fun x hx => h x (List.mem_cons_of_mem _ hx)
    rw [List.flatMap_cons, List.length_append, List.length_cons]
    unfold tB at h2 ⊢
    rw [List.length_cons, eenc_len]
    omega
theorem ec_bound {c : Crd} (h : CIn c) (i : Nat) (t : Trg) (ht : t ∈ c.trgs) : (cB1 c ++ c.name ++ cB2 c ++ eenc c.effs ++ bt (c.trgs.length : Nat) :: (c.trgs.take i).flatMap tB).length + (eenc t.effs).length + 5 ≤ 1000 := by
  have h1 := h.name
  have h2 := (allE_out h.effs).1
  have h3 := h.many
  have h4 := (allE_out (h.trgs t ht).2.2).1
  have h5 := tB_len (l := c.trgs.take i) fun x hx => h.trgs x (List.mem_of_mem_take hx)
  rw [List.length_take] at h5
  simp only [List.length_append, List.length_cons, eenc_len, cB1, cB2, List.length_nil]
  omega
set_option maxRecDepth 100000 in
set_option maxHeartbeats 8000000 in
theorem cencode_any {c : Crd} (hs : Sm c) (hc : cvalid c = true) {w : World} {B : Nat → Prop} {ev tv : Value} (h : CrdAt w B c ev tv) : Calls Tryz.prog 34 #[crdV c ev tv] w (BytesPost (cenc c) w) := by
  have h := h.mono (C := fun b => b < w.heap.size) fun b hb _ => hb
  have hin := cvalid_in hc
  obtain ⟨adt, capt, rfl⟩ := h.trgs.slice
  obtain ⟨ade, cape, rfl⟩ := rd_slice h.effs
  have HV := Lib.hid (fun w' (hk : Kept No w w') => hc ▸ cvalid_any hs (h.no hk))
  have HE := Lib.hid (fun w' (hk : Kept No w w') => eencode_any hin.effs (h.effs.no hk))
  have HTE := Lib.hid (fun (t : Trg) (ht : t ∈ c.trgs) v W (hv : EffsAt W (fun b => b < w.heap.size) v t.effs) => eencode_any (hin.trgs t ht).2.2 hv)
  have HTR := Lib.hid (fun w' (hk : Kept No w w') => h.trgs.no hk)
  have hsz := strOf_size c.name
  have HNL := Lib.hid (show c.name.length ≤ 32 from hin.name.2)
  have HML := Lib.hid hin.many
  have HCI := Lib.hid hin
  have HEF := Lib.hid (allE_out hin.effs).1
  have HO0 := Lib.hid (show CObj (w.alloc (.cells #[.string (strOf c.name), .int .i64 c.kind, .int .i64 c.o0, .int .i64 c.o1, .int .i64 c.o2, .int .i64 c.o3, .int .i64 c.any, .int .i64 c.makes, .int .i64 c.power, .int .i64 c.tough, .int .i64 c.keys, .slice ade c.effs.length cape, .slice adt c.trgs.length capt, .int .i64 c.rarity] 46)) w.heap.size c (.slice ade c.effs.length cape) (.slice adt c.trgs.length capt) from heap_alloc_new w _)
  have HK0 := Lib.hid ((Kept.refl No w).alloc (.cells #[.string (strOf c.name), .int .i64 c.kind, .int .i64 c.o0, .int .i64 c.o1, .int .i64 c.o2, .int .i64 c.o3, .int .i64 c.any, .int .i64 c.makes, .int .i64 c.power, .int .i64 c.tough, .int .i64 c.keys, .slice ade c.effs.length cape, .slice adt c.trgs.length capt, .int .i64 c.rarity] 46))
  obtain ⟨i8, hi8, hz0, hz1, hz2⟩ := ei8.hi
  have i0 := idx0 c.o0 c.o1 c.o2 c.o3
  have i1 := idx1 c.o0 c.o1 c.o2 c.o3
  have i2 := idx2 c.o0 c.o1 c.o2 c.o3
  have i3 := idx3 c.o0 c.o1 c.o2 c.o3
  clear h hin hs hc
  go_enter Tryz.func34, Tryz.ntmps34
  go_wp2_with (with_reducible refine wpList_load_row rfl 46 _ rfl w.heap.size rfl 46 _ (0, 0) _ HO0.out Tryz.underlying46 rfl (by kernel_rfl) ?_)
  refine (HV.out _ HK0.out).mono ?_
  rintro x w1 ⟨rfl, hk⟩
  have hob := CObj.no HO0.out hk
  obtain ⟨m0, m1, m2, m3, m4, m5, m6, m7, m8, m9, m10, m11, m12, m13⟩ := hob.cells
  have HO1 := Lib.hid hob
  have HK1 := Lib.hid (HK0.out.and hk)
  have HSZ := Lib.hid (show w.heap.size + 1 ≤ w1.heap.size by have := hk.size; simp at this; omega)
  have HST := Lib.hid (fun y : Int => fun (hy : y = ((bt (c.name.length : Nat)).toNat : Int)) => (⟨own_b3 w1 (bt_nat _).symm (bt_nat _).symm hy HSZ.out, hob.no ((Kept.refl No _).alloc _), HK1.out.alloc _⟩ : EcS c w _ _ (cB1 c) (.slice (some ⟨w1.heap.size, 0, none⟩) 3 3) (w1.alloc (.cells #[.int .u8 (c.kind % 256), .int .u8 (c.rarity % 256), .int .u8 y] 5))))
  clear hk hob
  have hz : w.heap.size < w1.heap.size := by have := HSZ.out; omega
  have HL3 := Lib.hid (show 3 + (strOf c.name).size ≤ maxLen ∧ 3 + (strOf c.name).size ≤ 140737488355328 by have := HNL.out; simp [maxLen]; omega)
  go_wp2_with (at_builtin; refine Lib.wpList_append_own_string _ rfl _ _ _ _ rfl (w.heap.size + 1) 5 i8 Tryz.underlying51 Tryz.underlying9 hi8 hz0 hz1 hz2 _ 3 _ rfl (HST.out _ (bt_nat _).symm).row (strOf c.name) rfl HL3.out.1 HL3.out.2 (by have := HSZ.out; simp; omega) ?_; intro v2 w2 hown hg _; have HS := Lib.hid (EcS.app (news := c.name) (HST.out _ (bt_nat _).symm) (Kept.refl No _) rfl hsz hown hg); obtain ⟨m0, m1, m2, m3, m4, m5, m6, m7, m8, m9, m10, m11, m12, m13⟩ := HS.out.obj.cells; clear hown hg)
  clear m0 m1 m2 m3 m4 m5 m6 m7 m8 m9 m10 m11 m12 m13
  go_loopw [4, 34] (fun ov iv wr => EcM c w (.slice ade c.effs.length cape) (.slice adt c.trgs.length capt) ov iv wr) (fun _ iv _ => 4 - (intOf iv).toNat)
  case atStart => exact ⟨0, rfl, by decide, by rw [List.take_zero, List.append_nil]; exact HS.out⟩
  case round =>
    clear hz HS HO1 HK1 HSZ HST HL3 HO0 HK0 HV
    obtain ⟨k, rfl, hk, hs⟩ := hrel
    have HS := Lib.hid hs
    have HSZ := Lib.hid (show w.heap.size + 1 ≤ wr.heap.size from obj_lt hs.obj)
    have HLN := Lib.hid (show ((cB1 c ++ c.name ++ (oB c).take k).length + 5) * 1 ≤ 140737488355328 by have := ec_len c (by have := HNL.out; omega) k; omega)
    obtain ⟨m0, m1, m2, m3, m4, m5, m6, m7, m8, m9, m10, m11, m12, m13⟩ := hs.obj.cells
    have hz : w.heap.size < wr.heap.size := by have := HSZ.out; omega
    clear hs
    obtain rfl | rfl | rfl | rfl | rfl : k = 0 ∨ k = 1 ∨ k = 2 ∨ k = 3 ∨ k = 4 := by omega
    · go_wp2_with (at_builtin; refine wpList_append_rd rfl rfl rfl rfl ei8 (owned_kept HS.out.row ((Kept.refl No wr).alloc _) fun _ _ _ => not_no _) (rd_b1 wr (bt_nat _).symm rfl) (bts_one _) (by have := HLN.out; omega) (by have := HSZ.out; simp; omega) ?_; intro v2 w2 hown hg _)
      exact ⟨⟨1, by go_num, by decide, by have := EcS.app (news := [bt c.o0]) HS.out ((Kept.refl No wr).alloc _) rfl rfl hown hg; rwa [List.append_assoc] at this⟩, by simp [intOf]⟩
    · go_wp2_with (at_builtin; refine wpList_append_rd rfl rfl rfl rfl ei8 (owned_kept HS.out.row ((Kept.refl No wr).alloc _) fun _ _ _ => not_no _) (rd_b1 wr (bt_nat _).symm rfl) (bts_one _) (by have := HLN.out; omega) (by have := HSZ.out; simp; omega) ?_; intro v2 w2 hown hg _)
      exact ⟨⟨2, by go_num, by decide, by have := EcS.app (news := [bt c.o1]) HS.out ((Kept.refl No wr).alloc _) rfl rfl hown hg; rwa [List.append_assoc] at this⟩, by simp [intOf]⟩
    · go_wp2_with (at_builtin; refine wpList_append_rd rfl rfl rfl rfl ei8 (owned_kept HS.out.row ((Kept.refl No wr).alloc _) fun _ _ _ => not_no _) (rd_b1 wr (bt_nat _).symm rfl) (bts_one _) (by have := HLN.out; omega) (by have := HSZ.out; simp; omega) ?_; intro v2 w2 hown hg _)
      exact ⟨⟨3, by go_num, by decide, by have := EcS.app (news := [bt c.o2]) HS.out ((Kept.refl No wr).alloc _) rfl rfl hown hg; rwa [List.append_assoc] at this⟩, by simp [intOf]⟩
    · go_wp2_with (at_builtin; refine wpList_append_rd rfl rfl rfl rfl ei8 (owned_kept HS.out.row ((Kept.refl No wr).alloc _) fun _ _ _ => not_no _) (rd_b1 wr (bt_nat _).symm rfl) (bts_one _) (by have := HLN.out; omega) (by have := HSZ.out; simp; omega) ?_; intro v2 w2 hown hg _)
      exact ⟨⟨4, by go_num, by decide, by have := EcS.app (news := [bt c.o3]) HS.out ((Kept.refl No wr).alloc _) rfl rfl hown hg; rwa [List.append_assoc] at this⟩, by simp [intOf]⟩
    · go_wp2_with (at_builtin; refine wpList_append_rd rfl rfl rfl rfl ei8 (owned_kept HS.out.row ((Kept.refl No wr).alloc _) fun _ _ _ => not_no _) (rd_b5 wr (bt_nat _).symm (bt_nat _).symm (bt_nat _).symm (bt_nat _).symm (bt_nat _).symm rfl) (bts_one _) HLN.out (by have := HSZ.out; simp; omega) ?_; intro v2 w2 hown hg _; have HS2 := Lib.hid (EcS.app (news := zB c) HS.out ((Kept.refl No wr).alloc _) rfl rfl hown hg); obtain ⟨m0, m1, m2, m3, m4, m5, m6, m7, m8, m9, m10, m11, m12, m13⟩ := HS2.out.obj.cells; clear hown hg)
      refine (HE.out _ HS2.out.kept).mono ?_
      rintro x w3 ⟨lv, rfl, hlv, hk3⟩
      have HS3 := Lib.hid (HS2.out.no hk3)
      have HLV := Lib.hid hlv
      obtain ⟨m0, m1, m2, m3, m4, m5, m6, m7, m8, m9, m10, m11, m12, m13⟩ := HS3.out.obj.cells
      have HSZ3 := Lib.hid (show w.heap.size + 1 ≤ w3.heap.size from obj_lt HS3.out.obj)
      have HEL := Lib.hid (show (eenc c.effs).length ≤ 1000000 by rw [eenc_len]; have := HEF.out; omega)
      have hz3 : w.heap.size < w3.heap.size := by have := HSZ3.out; omega
      have HL1 := Lib.hid (show ((cB1 c ++ c.name ++ (oB c).take 4 ++ zB c).length + (eenc c.effs).length) * 1 ≤ 140737488355328 ∧ ((cB1 c ++ c.name ++ (oB c).take 4 ++ zB c).length + (eenc c.effs).length + 1) * 1 ≤ 140737488355328 by
        have := ec_len c (by have := HNL.out; omega) 4; have := HEL.out; rw [List.length_append, show (zB c).length = 5 from rfl]; omega)
      clear hk3 hlv HLN HS HS2 hz m0 m1 m2 m3 m4 m5 m6 m7 m8 m9 m10 m11 m13 i0 i1 i2 i3
      go_wp2_with fail
      go_cut [4] from 68 to 76 (fun ov wx => EcS c w (.slice ade c.effs.length cape) (.slice adt c.trgs.length capt) (cB1 c ++ c.name ++ (oB c).take 4 ++ zB c ++ eenc c.effs ++ [bt (c.trgs.length : Nat)]) ov wx)
      case first =>
        go_region_law (first | (refine step_append_rdo (xv := lv) rfl rfl rfl rfl ei8 (owned_kept (S := No) HS3.out.row ?_ fun _ _ _ => not_no _) ((rd_owned HLV.out).kept (S := No) ?_ fun _ _ _ => not_no _) (bts_one _) HL1.out.1 ?_ ?_; (first | exact (Kept.refl No w3).drew | exact ((Kept.refl No w3).alloc _).drew); (first | exact (Kept.refl No w3).drew | exact ((Kept.refl No w3).alloc _).drew); (have := HSZ3.out; simp; omega); intro v5 w5 hown hg _; have HS5 := Lib.hid (EcS.app (news := eenc c.effs) HS3.out (by first | exact (Kept.refl No w3).drew | exact ((Kept.refl No w3).alloc _).drew) rfl rfl hown hg); (try (have HRB := Lib.hid (Rd.kept (rd_b1 w3 (b := bt (c.trgs.length : Nat)) (bt_nat _).symm rfl).drew ((Kept.refl (fun k => v2.ownBlock = some k) _).grown hg fun k e _ => e) (fun b _ e h => by have := (HS3.out.row.lt b h).2; omega) : Rd w5 _ _ _ _ _))); have m12 : w5.cell? ⟨w.heap.size, 12, none⟩ = some (.slice adt c.trgs.length capt) := obj_cell HS5.out.obj 12; have hz5 : w.heap.size < w5.heap.size := obj_lt HS5.out.obj; clear hown hg) | (refine step_append_rdo (v := v5) rfl rfl rfl rfl ei8 (owned_kept (S := No) HS5.out.row ((Kept.refl No w5).alloc _) fun _ _ _ => not_no _) (rd_b1 w5 (b := bt (c.trgs.length : Nat)) (bt_nat _).symm rfl) (bts_one _) (by rw [List.length_append]; exact HL1.out.2) (by have := obj_lt HS5.out.obj; simp; omega) ?_; intro v6 w6 hown hg _; have HS6 := Lib.hid (EcS.app (news := [bt (c.trgs.length : Nat)]) HS5.out ((Kept.refl No w5).alloc _) rfl rfl hown hg); clear hown hg) | (refine step_append_rdo (v := v5) rfl rfl rfl rfl ei8 HS5.out.row HRB.out (bts_one _) (by rw [List.length_append]; exact HL1.out.2) (by have := obj_lt HS5.out.obj; omega) ?_; intro v6 w6 hown hg _; have HS6 := Lib.hid (EcS.app (news := [bt (c.trgs.length : Nat)]) HS5.out (Kept.refl No w5) rfl rfl hown hg); clear hown hg))
        all_goals
          go_wp2_with fail
          go_meet
          exact HS6.out
      case rest =>
        have hc5 := hcut
        obtain ⟨m0, m1, m2, m3, m4, m5, m6, m7, m8, m9, m10, m11, m12, m13⟩ := hc5.obj.cells
        obtain ⟨n, hn⟩ : ∃ n, c.trgs.length = n := ⟨_, rfl⟩
        rw [hn] at m12
        have HN := Lib.hid hn
        have hn2 : n ≤ 2 := by rw [← hn]; exact HML.out
        have HC := Lib.hid (show EcS c w (.slice ade c.effs.length cape) (.slice adt c.trgs.length capt) (cB1 c ++ c.name ++ cB2 c ++ eenc c.effs ++ bt (c.trgs.length : Nat) :: (c.trgs.take 0).flatMap tB) u4 wc by
          have e : cB1 c ++ c.name ++ cB2 c ++ eenc c.effs ++ bt (c.trgs.length : Nat) :: (c.trgs.take 0).flatMap tB = cB1 c ++ c.name ++ (oB c).take 4 ++ zB c ++ eenc c.effs ++ [bt (c.trgs.length : Nat)] := by simp [cB2, oB, zB]
          rw [e]; exact hcut)
        clear hcut hc5 hn m0 m1 m2 m3 m4 m5 m6 m7 m8 m9 m10 m11 m13 HS3 HLV HSZ3 HEL HL1 hz3 HSZ HE
        go_wp2_with fail
        go_loopw [4, 80] (fun ov iv wr => EcT c w (.slice ade c.effs.length cape) (.slice adt c.trgs.length capt) ov iv wr) (fun _ iv _ => n - (intOf iv).toNat)
        case atStart => exact ⟨0, rfl, Nat.zero_le _, HC.out⟩
        case round =>
          clear HC m12
          obtain ⟨i, rfl, hi, hs⟩ := hrel
          rw [HN.out] at hi
          have HS := Lib.hid hs
          by_cases hlt : i < n
          · have hil : i < c.trgs.length := by rw [HN.out]; exact hlt
            obtain ⟨t, ht⟩ : ∃ t, c.trgs[i]? = some t := ⟨_, List.getElem?_eq_getElem hil⟩
            obtain ⟨b, off, c1, ev, hsl, hcap, g0, g1, hE⟩ := (HTR.out _ hs.kept).at ht
            obtain ⟨ade2, cape2, rfl⟩ := rd_slice hE
            have HCE := Lib.hid (fun W (hk : Kept No wr W) => HTE.out t (List.mem_of_getElem? ht) _ W (hE.no hk))
            have HUP := Lib.hid (ec_up ht)
            have HLN := Lib.hid (ec_bound HCI.out i t (List.mem_of_getElem? ht))
            rw [HN.out] at hsl
            cases hsl
            have HSZ := Lib.hid (show w.heap.size + 1 ≤ wr.heap.size from obj_lt hs.obj)
            have d1 : decide (i < n) = true := decide_eq_true hlt
            have hi0 : (0 : Int) ≤ (i : Int) := by omega
            have hin : (i : Int) < (n : Int) := by omega
            have q4 : IntKind.i64.wrap ((i : Int) + 1) = (i : Int) + 1 := IntWalk.i64_in _ (by omega)
            have HI := Lib.hid hlt
            obtain ⟨PB, hPB⟩ : ∃ PB, cB1 c ++ c.name ++ cB2 c ++ eenc c.effs ++ bt (c.trgs.length : Nat) :: (c.trgs.take i).flatMap tB = PB := ⟨_, rfl⟩
            rw [hPB] at HS HUP HLN
            clear hs hlt hil ht hE hcap hPB
            go_wp2_with fail
            refine (HCE.out _ ((Kept.refl No wr).alloc _)).mono ?_
            rintro x w3 ⟨lv, rfl, hlv, hk3⟩
            have hbx := hk3.obj (World.alloc_at rfl _) (not_no _)
            have e0 := (obj_cell hbx 0).trans rfl
            have HK3 := Lib.hid (((Kept.refl No wr).alloc _).and hk3)
            have HLV := Lib.hid hlv
            have hz3 : wr.heap.size < w3.heap.size := obj_lt hbx
            clear hbx hk3 hlv
            go_wp2_with (at_builtin; first | (refine wpList_append_rd rfl rfl rfl rfl ei8 (owned_kept HS.out.row (HK3.out.alloc _) fun _ _ _ => not_no _) (rd_b1 w3 (b := bt t.when) (bt_nat _).symm rfl) (bts_one _) (by have := HLN.out; omega) (by have := HSZ.out; simp; omega) ?_; intro v5 w5 hown hg _; have HS5 := Lib.hid (EcS.app (news := [bt t.when]) HS.out (HK3.out.alloc _) rfl rfl hown hg); have HLV5 := Lib.hid (Rd.kept (rd_owned HLV.out) (((Kept.refl (fun k => u4.ownBlock = some k) _).alloc _).grown hg fun k e _ => e) (fun b hb hb2 e => by have := (HS.out.row.lt b e).2; simp at hb2; omega)); clear hown hg) | (refine wpList_append_rd (v := v5) (xv := lv) rfl rfl rfl rfl ei8 HS5.out.row HLV5.out (bts_one _) (by rw [List.length_append]; have := HLN.out; simp; omega) (by have := obj_lt HS5.out.obj; omega) ?_; intro v6 w6 hown hg _; have HS6 := Lib.hid (EcS.app (news := eenc t.effs) HS5.out (Kept.refl No w5) rfl rfl hown hg); clear hown hg))
            have hI := HI.out
            exact ⟨⟨i + 1, by go_num, by rw [HN.out]; omega, by rw [HUP.out]; exact HS6.out⟩, by simp [intOf]; omega⟩
          · have d1 : decide (i < n) = false := decide_eq_false hlt
            have hin : i = n := by omega
            have HR := Lib.hid (show cB1 c ++ c.name ++ cB2 c ++ eenc c.effs ++ bt (c.trgs.length : Nat) :: (c.trgs.take i).flatMap tB = cenc c by rw [hin, ← HN.out, List.take_length]; rfl)
            clear hlt hs hin
            go_wp2_with fail
            go_ret2
            exact ⟨_, rfl, owned_mono (HR.out ▸ HS.out.row) (by omega), HS.out.kept⟩
end Go.Proofs.YtclgoilfclmibaaGreatDoor
