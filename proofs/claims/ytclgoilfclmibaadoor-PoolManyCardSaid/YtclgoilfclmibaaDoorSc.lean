/-
  Pool: the document's bytes of a card.
-/
import Derived.Test.YtclgoilfclmibaaDoorSb
set_option linter.unusedVariables false
set_option linter.unusedSimpArgs false
namespace Go.Proofs.YtclgoilfclmibaaDoor
open Go Go.RowKit Go.Zn
attribute [local go_sem] Oper.semAt_some

theorem str_idx {l : List UInt8} {i : Nat} {b : UInt8} (h : l[i]? = some b) (w : World) : (Instr.index 9 (.string (strOf l)) (.int .i64 (i : Nat))).run Tryd.prog w = .ok (.int .u8 b.toNat) w := by
  obtain ⟨hi, he⟩ := List.getElem?_eq_some_iff.1 h
  have hs := strOf_size l
  rw [run_index_string w 9 _ _ _ Tryd.underlying9, dif_pos ⟨by omega, by omega⟩]
  have e : (strOf l)[((i : Nat) : Int).toNat]'(by omega) = b := by
    show (strOf l).data[((i : Nat) : Int).toNat]'_ = b
    simp only [strOf, Int.toNat_natCast, List.getElem_toArray]
    exact he
  rw [e]
theorem rd_b9 (w : World) {y0 y1 y2 y3 y4 y5 y6 y7 y8 : Int} {b0 b1 b2 b3 b4 b5 b6 b7 b8 : UInt8} (h0 : y0 = (b0.toNat : Int)) (h1 : y1 = (b1.toNat : Int)) (h2 : y2 = (b2.toNat : Int)) (h3 : y3 = (b3.toNat : Int)) (h4 : y4 = (b4.toNat : Int)) (h5 : y5 = (b5.toNat : Int)) (h6 : y6 = (b6.toNat : Int)) (h7 : y7 = (b7.toNat : Int)) (h8 : y8 = (b8.toNat : Int)) {k : Nat} (hk : k = w.heap.size) : Rd (w.alloc (.cells #[.int .u8 y0, .int .u8 y1, .int .u8 y2, .int .u8 y3, .int .u8 y4, .int .u8 y5, .int .u8 y6, .int .u8 y7, .int .u8 y8] 5)) (fun i => i = k) 1 (.slice (some ⟨k, 0, none⟩) 9 9) 9 (bts [b0, b1, b2, b3, b4, b5, b6, b7, b8]) := by
  subst h0 h1 h2 h3 h4 h5 h6 h7 h8 hk
  exact ⟨rfl, by simp [maxLen], .inr ⟨_, 0, 9, rfl, Nat.le_refl _, fun _ => rfl, fun j u hj => by
    rw [Nat.zero_add, obj_cell (heap_alloc_new w _)]
    match j, hj with
    | 0, hj => exact hj
    | 1, hj => exact hj
    | 2, hj => exact hj
    | 3, hj => exact hj
    | 4, hj => exact hj
    | 5, hj => exact hj
    | 6, hj => exact hj
    | 7, hj => exact hj
    | 8, hj => exact hj⟩⟩
def RcN (c : Crd) (w : World) (ev tv : Value) (ov iv : Value) (wr : World) : Prop := ∃ k : Nat, iv = .int .i64 (k : Nat) ∧ k ≤ c.name.length ∧ EcS c w ev tv (cB1 c ++ c.name.take k) ov wr
set_option maxRecDepth 100000 in
set_option maxHeartbeats 8000000 in
theorem rcencode_any {c : Crd} (hc : cvalid c = true) {w : World} {B : Nat → Prop} {ev tv : Value} (h : CrdAt w B c ev tv) : Calls Tryd.prog 22 #[crdV c ev tv] w (RowPost (cenc c) w) := by
  have h := h.mono (C := fun b => b < w.heap.size) fun b hb _ => hb
  have hin := cvalid_in hc
  obtain ⟨adt, capt, rfl⟩ := h.trgs.slice
  obtain ⟨ade, cape, rfl⟩ := rd_slice h.effs
  have HE := Lib.hid (fun w' (hk : Kept No w w') => reE_any (allE_out hin.effs).1 (h.effs.no hk))
  have HTE := Lib.hid (fun (t : Trg) (ht : t ∈ c.trgs) v W (hv : EffsAt W (fun b => b < w.heap.size) v t.effs) => reE_any (allE_out (hin.trgs t ht).2.2).1 hv)
  have HTR := Lib.hid (fun w' (hk : Kept No w w') => h.trgs.no hk)
  have hsz := strOf_size c.name
  have HNL := Lib.hid (show c.name.length ≤ 32 from hin.name.2)
  have HML := Lib.hid hin.many
  have HCI := Lib.hid hin
  have HEF := Lib.hid (allE_out hin.effs).1
  have HO0 := Lib.hid (show CObj (w.alloc (.cells #[.string (strOf c.name), .int .i64 c.kind, .int .i64 c.o0, .int .i64 c.o1, .int .i64 c.o2, .int .i64 c.o3, .int .i64 c.any, .int .i64 c.makes, .int .i64 c.power, .int .i64 c.tough, .int .i64 c.keys, .slice ade c.effs.length cape, .slice adt c.trgs.length capt, .int .i64 c.rarity] 35)) w.heap.size c (.slice ade c.effs.length cape) (.slice adt c.trgs.length capt) from heap_alloc_new w _)
  have HK0 := Lib.hid ((Kept.refl No w).alloc (.cells #[.string (strOf c.name), .int .i64 c.kind, .int .i64 c.o0, .int .i64 c.o1, .int .i64 c.o2, .int .i64 c.o3, .int .i64 c.any, .int .i64 c.makes, .int .i64 c.power, .int .i64 c.tough, .int .i64 c.keys, .slice ade c.effs.length cape, .slice adt c.trgs.length capt, .int .i64 c.rarity] 35))
  have HST := Lib.hid (fun y : Int => fun (hy : y = ((bt (c.name.length : Nat)).toNat : Int)) => (⟨own_b3 (w.alloc (.cells #[.string (strOf c.name), .int .i64 c.kind, .int .i64 c.o0, .int .i64 c.o1, .int .i64 c.o2, .int .i64 c.o3, .int .i64 c.any, .int .i64 c.makes, .int .i64 c.power, .int .i64 c.tough, .int .i64 c.keys, .slice ade c.effs.length cape, .slice adt c.trgs.length capt, .int .i64 c.rarity] 35)) (bt_nat _).symm (bt_nat _).symm hy (by simp), HO0.out.no ((Kept.refl No _).alloc _), HK0.out.alloc _⟩ : EcS c w (.slice ade c.effs.length cape) (.slice adt c.trgs.length capt) (cB1 c) (.slice (some ⟨(w.alloc (.cells #[.string (strOf c.name), .int .i64 c.kind, .int .i64 c.o0, .int .i64 c.o1, .int .i64 c.o2, .int .i64 c.o3, .int .i64 c.any, .int .i64 c.makes, .int .i64 c.power, .int .i64 c.tough, .int .i64 c.keys, .slice ade c.effs.length cape, .slice adt c.trgs.length capt, .int .i64 c.rarity] 35)).heap.size, 0, none⟩) 3 3) ((w.alloc (.cells #[.string (strOf c.name), .int .i64 c.kind, .int .i64 c.o0, .int .i64 c.o1, .int .i64 c.o2, .int .i64 c.o3, .int .i64 c.any, .int .i64 c.makes, .int .i64 c.power, .int .i64 c.tough, .int .i64 c.keys, .slice ade c.effs.length cape, .slice adt c.trgs.length capt, .int .i64 c.rarity] 35)).alloc (.cells #[.int .u8 (c.kind % 256), .int .u8 (c.rarity % 256), .int .u8 y] 5))))
  obtain ⟨nn, hnn⟩ : ∃ nn, c.name.length = nn := ⟨_, rfl⟩
  have HNN := Lib.hid hnn
  rw [hnn] at hsz
  obtain ⟨m0, m1, m2, m3, m4, m5, m6, m7, m8, m9, m10, m11, m12, m13⟩ := HO0.out.cells
  clear h hin hc m2 m3 m4 m5 m6 m7 m8 m9 m10 hnn
  go_enter Tryd.func22, Tryd.ntmps22
  go_wp2_with fail
  clear m0 m1 m11 m12 m13
  go_loopw [3, 4] (fun ov iv wr => RcN c w (.slice ade c.effs.length cape) (.slice adt c.trgs.length capt) ov iv wr) (fun _ iv _ => nn - (intOf iv).toNat)
  case atStart =>
    refine ⟨0, rfl, Nat.zero_le _, ?_⟩
    rw [List.take_zero, List.append_nil]
    have h := HST.out _ (bt_nat _).symm
    rw [HNN.out] at h
    simp only [World.size_alloc] at h
    exact h
  case round =>
    clear HO0 HK0
    obtain ⟨k, rfl, hk, hs⟩ := hrel
    rw [HNN.out] at hk
    have HS := Lib.hid hs
    have HSZ := Lib.hid (show w.heap.size + 1 ≤ wr.heap.size from obj_lt hs.obj)
    obtain ⟨m0, m1, m2, m3, m4, m5, m6, m7, m8, m9, m10, m11, m12, m13⟩ := hs.obj.cells
    have hz : w.heap.size < wr.heap.size := by have := HSZ.out; omega
    by_cases hlt : k < nn
    · have hil : k < c.name.length := by rw [HNN.out]; exact hlt
      obtain ⟨b, hb⟩ : ∃ b, c.name[k]? = some b := ⟨_, List.getElem?_eq_getElem hil⟩
      have HIX := Lib.hid (str_idx hb)
      have hix := HIX.out
      have HLN := Lib.hid (show ((cB1 c ++ c.name.take k).length + 1) * 1 ≤ 140737488355328 by
        rw [List.length_append, List.length_take, show (cB1 c).length = 3 from rfl]; have := HNL.out; omega)
      have HUP := Lib.hid (show cB1 c ++ c.name.take (k + 1) = cB1 c ++ c.name.take k ++ [b] by rw [List.take_add_one, hb, List.append_assoc]; rfl)
      have d1 : decide (k < nn) = true := decide_eq_true hlt
      have hi0 : (0 : Int) ≤ (k : Int) := by omega
      have hin : (k : Int) < (nn : Int) := by omega
      have q4 : IntKind.i64.wrap ((k : Int) + 1) = (k : Int) + 1 := IntWalk.i64_in _ (by have := HNL.out; rw [HNN.out] at this; omega)
      have HI := Lib.hid hlt
      clear hs hlt hil hb m1 m2 m3 m4 m5 m6 m7 m8 m9 m10 m11 m12 m13
      go_wp2_with (at_builtin; refine wpList_append_rd rfl rfl rfl rfl ei8 (owned_kept HS.out.row ((Kept.refl No wr).alloc _) fun _ _ _ => not_no _) (rd_b1 wr (b := b) rfl rfl) (bts_one _) HLN.out (by have := HSZ.out; simp; omega) ?_; intro v2 w2 hown hg _)
      have hI := HI.out
      exact ⟨⟨k + 1, by go_num, by rw [HNN.out]; omega, by rw [HUP.out]; exact EcS.app (news := [b]) HS.out ((Kept.refl No wr).alloc _) rfl rfl hown hg⟩, by simp [intOf]; omega⟩
    · have d1 : decide (k < nn) = false := decide_eq_false hlt
      have HS := Lib.hid (show EcS c w (.slice ade c.effs.length cape) (.slice adt c.trgs.length capt) (cB1 c ++ c.name) u3 wr by
        have e : c.name.take k = c.name := List.take_of_length_le (by rw [HNN.out]; omega)
        rw [e] at hs; exact hs)
      have HLN := Lib.hid (show ((cB1 c ++ c.name).length + 9) * 1 ≤ 140737488355328 by
        rw [List.length_append, show (cB1 c).length = 3 from rfl]; have := HNL.out; omega)
      clear hs hlt m11 m12 m13
      go_wp2_with (at_builtin; refine wpList_append_rd rfl rfl rfl rfl ei8 (owned_kept HS.out.row ((Kept.refl No wr).alloc _) fun _ _ _ => not_no _) (rd_b9 wr (bt_nat _).symm (bt_nat _).symm (bt_nat _).symm (bt_nat _).symm (bt_nat _).symm (bt_nat _).symm (bt_nat _).symm (bt_nat _).symm (bt_nat _).symm rfl) (bts_one _) HLN.out (by have := HSZ.out; simp; omega) ?_; intro v2 w2 hown hg _; have HS2 := Lib.hid (EcS.app (news := cB2 c) HS.out ((Kept.refl No wr).alloc _) rfl rfl hown hg); obtain ⟨m0, m1, m2, m3, m4, m5, m6, m7, m8, m9, m10, m11, m12, m13⟩ := HS2.out.obj.cells; have hz2 : w.heap.size < w2.heap.size := obj_lt HS2.out.obj; clear hown hg)
      clear m0 m1 m2 m3 m4 m5 m6 m7 m8 m9 m10 m11 m12 m13
      refine (HE.out _ HS2.out.kept).mono ?_
      rintro x w3 ⟨lv, rfl, hlv, hk3⟩
      have HS3 := Lib.hid (HS2.out.no hk3)
      have HLV := Lib.hid hlv
      obtain ⟨m0, m1, m2, m3, m4, m5, m6, m7, m8, m9, m10, m11, m12, m13⟩ := HS3.out.obj.cells
      have HSZ3 := Lib.hid (show w.heap.size + 1 ≤ w3.heap.size from obj_lt HS3.out.obj)
      have hz3 : w.heap.size < w3.heap.size := by have := HSZ3.out; omega
      have HL1 := Lib.hid (show ((cB1 c ++ c.name ++ cB2 c).length + (eenc c.effs).length) * 1 ≤ 140737488355328 ∧ ((cB1 c ++ c.name ++ cB2 c ++ eenc c.effs).length + 1) * 1 ≤ 140737488355328 by
        have h1 := HNL.out
        have h2 := HEF.out
        have h3 : (eenc c.effs).length = 1 + 5 * c.effs.length := by rw [eenc_len]
        simp only [List.length_append, show (cB1 c).length = 3 from rfl, show (cB2 c).length = 9 from rfl, h3]
        omega)
      clear hk3 hlv HLN HS HS2 hz m0 m1 m2 m3 m4 m5 m6 m7 m8 m9 m10 m11 m13 hz2
      go_wp2_with (at_builtin; first | (refine wpList_append_rd (xv := lv) rfl rfl rfl rfl ei8 HS3.out.row (rd_owned HLV.out) (bts_one _) HL1.out.1 (by have := HSZ3.out; omega) ?_; intro v5 w5 hown hg _; have HS5 := Lib.hid (EcS.app (news := eenc c.effs) HS3.out (Kept.refl No w3) rfl rfl hown hg); have n12 : w5.cell? ⟨w.heap.size, 12, none⟩ = some (.slice adt c.trgs.length capt) := obj_cell HS5.out.obj 12; have hz5 : w.heap.size < w5.heap.size := obj_lt HS5.out.obj; clear hown hg) | (refine wpList_append_rd (v := v5) rfl rfl rfl rfl ei8 (owned_kept HS5.out.row ((Kept.refl No w5).alloc _) fun _ _ _ => not_no _) (rd_b1 w5 (b := bt (c.trgs.length : Nat)) (bt_nat _).symm rfl) (bts_one _) HL1.out.2 (by have := obj_lt HS5.out.obj; simp; omega) ?_; intro v6 w6 hown hg _; have HS6 := Lib.hid (EcS.app (news := [bt (c.trgs.length : Nat)]) HS5.out ((Kept.refl No w5).alloc _) rfl rfl hown hg); clear hown hg))
      obtain ⟨n, hn⟩ : ∃ n, c.trgs.length = n := ⟨_, rfl⟩
      have HN := Lib.hid hn
      have hn2 : n ≤ 2 := by rw [← hn]; exact HML.out
      have HC := Lib.hid (show EcS c w (.slice ade c.effs.length cape) (.slice adt c.trgs.length capt) (cB1 c ++ c.name ++ cB2 c ++ eenc c.effs ++ bt (c.trgs.length : Nat) :: (c.trgs.take 0).flatMap tB) v6 w6 by
        have e : cB1 c ++ c.name ++ cB2 c ++ eenc c.effs ++ bt (c.trgs.length : Nat) :: (c.trgs.take 0).flatMap tB = cB1 c ++ c.name ++ cB2 c ++ eenc c.effs ++ [bt (c.trgs.length : Nat)] := by simp
        rw [e]; exact HS6.out)
      clear hn HS3 HLV HSZ3 HL1 hz3 HE HS5 HS6 n12 hz5 m12
      go_loopw [3, 5] (fun ov iv wr => EcT c w (.slice ade c.effs.length cape) (.slice adt c.trgs.length capt) ov iv wr) (fun _ iv _ => n - (intOf iv).toNat)
      case atStart => exact ⟨0, rfl, Nat.zero_le _, HC.out⟩
      case round =>
        clear HC
        obtain ⟨i, rfl, hi, hs⟩ := hrel
        rw [HN.out] at hi
        have HS := Lib.hid hs
        have m12 := obj_cell hs.obj 12
        simp only [crdCs, List.getElem?_toArray, List.getElem?_cons_succ, List.getElem?_cons_zero] at m12
        rw [HN.out] at m12
        have hz : w.heap.size < wr.heap.size := obj_lt hs.obj
        by_cases hlt : i < n
        · have hil : i < c.trgs.length := by rw [HN.out]; exact hlt
          obtain ⟨t, ht⟩ : ∃ t, c.trgs[i]? = some t := ⟨_, List.getElem?_eq_getElem hil⟩
          obtain ⟨b, off, c1, ev, hsl, hcap, g0, g1, hE⟩ := (HTR.out _ hs.kept).at ht
          obtain ⟨ade2, cape2, rfl⟩ := rd_slice hE
          have HUP := Lib.hid (ec_up ht)
          have HLN := Lib.hid (ec_bound HCI.out i t (List.mem_of_getElem? ht))
          rw [HN.out] at hsl
          cases hsl
          have HSZ := Lib.hid (show w.heap.size + 1 ≤ wr.heap.size from obj_lt hs.obj)
          have d1 : decide (i < n) = true := decide_eq_true hlt
          have hi0 : (0 : Int) ≤ (i : Int) := by omega
          have hin : (i : Int) < (n : Int) := by omega
          have q4 : IntKind.i64.wrap ((i : Int) + 1) = (i : Int) + 1 := IntWalk.i64_in _ (by omega)
          have HI := Lib.hid hlt
          have HCE := Lib.hid (fun W (hk : Kept No w W) => (HTR.out _ hk).at ht)
          have HTT := Lib.hid (fun v W => HTE.out t (List.mem_of_getElem? ht) v W)
          obtain ⟨PB, hPB⟩ : ∃ PB, cB1 c ++ c.name ++ cB2 c ++ eenc c.effs ++ bt (c.trgs.length : Nat) :: (c.trgs.take i).flatMap tB = PB := ⟨_, rfl⟩
          rw [hPB] at HS HUP HLN
          clear hs hlt hil ht hE hcap hPB
          go_wp2_with (at_builtin; refine wpList_append_rd rfl rfl rfl rfl ei8 (owned_kept HS.out.row ((Kept.refl No wr).alloc _) fun _ _ _ => not_no _) (rd_b1 wr (b := bt t.when) (bt_nat _).symm rfl) (bts_one _) (by have := HLN.out; omega) (by have := HSZ.out; simp; omega) ?_; intro v5 w5 hown hg _; have HS5 := Lib.hid (EcS.app (news := [bt t.when]) HS.out ((Kept.refl No wr).alloc _) rfl rfl hown hg); have n12 := obj_cell HS5.out.obj 12; simp only [crdCs, List.getElem?_toArray, List.getElem?_cons_succ, List.getElem?_cons_zero] at n12; rw [HN.out] at n12; have hz5 : w.heap.size < w5.heap.size := obj_lt HS5.out.obj; obtain ⟨b2, off2, c2, ev2, hsl2, _, y0, y1, hE2⟩ := HCE.out _ HS5.out.kept; rw [HN.out] at hsl2; cases hsl2; obtain ⟨ade3, cape3, rfl⟩ := rd_slice hE2; have HE2 := Lib.hid hE2; clear hown hg hE2 y0)
          refine (HTT.out _ _ HE2.out).mono ?_
          rintro x w7 ⟨lv2, rfl, hlv2, hk7⟩
          have HLV2 := Lib.hid hlv2
          have HS7 := Lib.hid (HS5.out.no hk7)
          clear hlv2 hk7
          go_wp2_with (at_builtin; refine wpList_append_rd (xv := lv2) rfl rfl rfl rfl ei8 HS7.out.row (rd_owned HLV2.out) (bts_one _) (by rw [List.length_append]; have := HLN.out; simp; omega) (by have := obj_lt HS7.out.obj; omega) ?_; intro v8 w8 hown hg _; have HS8 := Lib.hid (EcS.app (news := eenc t.effs) HS7.out (Kept.refl No w7) rfl rfl hown hg); clear hown hg)
          have hI := HI.out
          exact ⟨⟨i + 1, by go_num, by rw [HN.out]; omega, by rw [HUP.out]; exact HS8.out⟩, by simp [intOf]; omega⟩
        · have d1 : decide (i < n) = false := decide_eq_false hlt
          have hin : i = n := by omega
          have HR := Lib.hid (show cB1 c ++ c.name ++ cB2 c ++ eenc c.effs ++ bt (c.trgs.length : Nat) :: (c.trgs.take i).flatMap tB = cenc c by rw [hin, ← HN.out, List.take_length]; rfl)
          clear hlt hs hin
          go_wp2_with fail
          go_ret
          exact ⟨_, rfl, owned_mono (HR.out ▸ HS.out.row) (by omega), HS.out.kept⟩
end Go.Proofs.YtclgoilfclmibaaDoor
