/-
  Pool: the examples.
-/
import Derived.Test.YtclgoilfclmibaaDoorRb
set_option linter.unusedVariables false
set_option linter.unusedSimpArgs false
namespace Go.Proofs.YtclgoilfclmibaaDoor
open Go Go.RowKit Go.Zn
attribute [local go_sem] Oper.semAt_some

def cWell : Crd := ⟨[87, 101, 108, 108], 1, 0, 0, 0, 0, 0, 1, 0, 0, 0, [], [], 1⟩
def eJolt : Eff := ⟨1, 5, 3, 0, 0⟩
def cJolt : Crd := ⟨[74, 111, 108, 116], 4, 1, 0, 0, 0, 0, 0, 0, 0, 0, [eJolt], [], 1⟩
def cBad : Crd := ⟨[], 1, 0, 0, 0, 0, 0, 0, 0, 0, 0, [], [], 1⟩
theorem kn_1 : wrongF [cWell, cJolt] = 0 := by decide
theorem kn_2 : nmAt [cWell, cJolt] [74, 111, 108, 116] = some 1 := by decide
theorem kn_3 : nmAt [cWell, cJolt] [87, 105, 115, 112] = none := by decide
theorem kn_4 : (penc [cWell, cJolt]).length = 47 := by decide
theorem kn_5 : selF [cWell, cJolt] 4 0 = [1] := by decide
theorem kn_6 : selF [cWell, cJolt] 0 1 = [0, 1] := by decide
theorem kn_7 : selF [cWell, cJolt] 4 2 = [] := by decide
theorem kn_8 : sumF [] = 17 := by decide
theorem kn_9 : sumF [1] = 528 := by decide
theorem kn_10 : sumF [0, 2, 1] = 506510 := by decide
theorem kn_11 : wrongF [cWell, cWell] = 11 := by decide
theorem kn_12 : wrongF [cBad] = 2 := by decide
theorem kn_13 : wrongF [] = 0 := by decide
theorem kn_14 : penc [] = [0, 0, 0, 0, 63, 209] := by decide
theorem kn_15 : pdecF [0, 0, 0, 0, 63, 209] = (0, []) := by decide
theorem kn_16 : (pdecF [0, 0, 0, 0, 63, 208]).1 = 10 := by decide
theorem kn_17 : (pdecF [0, 0]).1 = 4 := by decide
theorem crds1 {W : World} {g : Nat} {c : Crd} {e t : Value} (hg : W.heap[g]? = some (.cells (crdCs c e t).toArray 35 (0, 0))) (h1 : CrdAt W (fun _ => True) c e t) : CrdsAt W (fun _ => True) (.slice (some ⟨g, 0, none⟩) 1 1) [c] :=
  ⟨crdCs c e t, (rd_obj hg rfl (by decide) (Nat.le_refl _) (fun j u hj => by rw [List.getElem?_toArray]; exact hj)).mono (fun _ _ _ => trivial), e, t, [], (List.append_nil _).symm, h1, rfl⟩
theorem crds2 {W : World} {g : Nat} {c1 c2 : Crd} {e1 t1 e2 t2 : Value} (hg : W.heap[g]? = some (.cells (crdCs c1 e1 t1 ++ crdCs c2 e2 t2).toArray 35 (0, 0))) (h1 : CrdAt W (fun _ => True) c1 e1 t1) (h2 : CrdAt W (fun _ => True) c2 e2 t2) :
    CrdsAt W (fun _ => True) (.slice (some ⟨g, 0, none⟩) 2 2) [c1, c2] :=
  ⟨crdCs c1 e1 t1 ++ crdCs c2 e2 t2, (rd_obj hg rfl (by decide) (Nat.le_refl _) (fun j u hj => by rw [List.getElem?_toArray]; exact hj)).mono (fun _ _ _ => trivial), e1, t1, crdCs c2 e2 t2, rfl, h1, e2, t2, [], (List.append_nil _).symm, h2, rfl⟩
theorem crd_nil (W : World) {c : Crd} (h1 : c.effs = []) (h2 : c.trgs = []) : CrdAt W (fun _ => True) c (.slice none 0 0) (.slice none 0 0) := by
  refine ⟨?_, ?_⟩
  · rw [h1]; exact rd_nil _ _ _
  · rw [h2]; exact ⟨[], rd_nil _ _ _, rfl⟩
/-- what the examples stand on -/
structure KnS (g : Nat) (w W : World) : Prop where
  well : CObj W g cWell (.slice none 0 0) (.slice none 0 0)
  jolt : CObj W (g + 1 + 1) cJolt (.slice (some ⟨g + 1, 0, none⟩) 1 1) (.slice none 0 0)
  eff : EffsAt W (fun _ => True) (.slice (some ⟨g + 1, 0, none⟩) 1 1) [eJolt]
  kept : Kept No w W
theorem KnS.no {g : Nat} {w W W' : World} (h : KnS g w W) (hk : Kept No W W') : KnS g w W' := ⟨h.well.no hk, h.jolt.no hk, h.eff.no hk, h.kept.and hk⟩
theorem KnS.crds {g : Nat} {w W : World} (h : KnS g w W) {b : Nat} (hb : b = W.heap.size) : CrdsAt (W.alloc (.cells (crdCs cWell (.slice none 0 0) (.slice none 0 0) ++ crdCs cJolt (.slice (some ⟨g + 1, 0, none⟩) 1 1) (.slice none 0 0)).toArray 35)) (fun _ => True) (.slice (some ⟨b, 0, none⟩) 2 2) [cWell, cJolt] := by
  subst hb
  have h2 := h.no ((Kept.refl No W).alloc (.cells (crdCs cWell (.slice none 0 0) (.slice none 0 0) ++ crdCs cJolt (.slice (some ⟨g + 1, 0, none⟩) 1 1) (.slice none 0 0)).toArray 35))
  exact crds2 (heap_alloc_new W _) (crd_nil _ rfl rfl) ⟨h2.eff, ⟨[], rd_nil _ _ _, rfl⟩⟩
theorem rd_no {B : Nat → Prop} {w w' : World} {size : Nat} {v : Value} {n : Nat} {xs : List Value} (h : Rd w B size v n xs) (hk : Kept No w w') : Rd w' B size v n xs := h.kept hk fun _ _ _ => not_no _
theorem same_lit {w : World} {l : List Nat} (hl : l.length ≤ 1000000) {v : Value} {base : Nat} (h : IRow w base v l) : Calls Tryd.prog 20 #[v, .slice (some ⟨w.heap.size, 0, none⟩) l.length l.length] (w.alloc (.cells (nvals l).toArray 3)) fun e w' => e = .returned (.bool true) ∧ Kept No w w' := by
  refine (isame_any (B := fun _ => True) (C := fun _ => True) hl ?_ ?_).mono fun e w' ⟨h1, q, h2⟩ => ⟨h1, by rw [h2]; exact ((Kept.refl No w).alloc _).drewN q⟩
  · exact ((rd_owned h).kept ((Kept.refl No w).alloc _) (fun _ _ _ => not_no _)).mono (fun _ _ _ => trivial)
  · exact (rd_obj (heap_alloc_new w _) (by simp [nvals]) (by simp [maxLen]; omega) (Nat.le_refl _) (fun j u hj => by rw [List.getElem?_toArray]; exact hj)).mono (fun _ _ _ => trivial)
theorem rd_lit (w : World) {l : List UInt8} (hl : l.length ≤ 1000000) : Rd (w.alloc (.cells (bts l).toArray 5)) (fun _ => True) 1 (.slice (some ⟨w.heap.size, 0, none⟩) l.length l.length) l.length (bts l) :=
  (rd_obj (heap_alloc_new w _) (by simp) (by simp [maxLen]; omega) (Nat.le_refl _) (fun j u hj => by rw [List.getElem?_toArray]; exact hj)).mono (fun _ _ _ => trivial)
theorem sum_1 (w : World) : Calls Tryd.prog 21 #[.slice (some ⟨w.heap.size, 0, none⟩) 1 1] (w.alloc (.cells #[.int .u8 1] 5)) fun e w' => e = .returned (.int .u32 528) ∧ Kept No w w' := by
  have h := psum_any (l := [1]) (by decide) (rd_lit w (l := [1]) (by decide))
  rw [kn_9] at h
  exact h.mono fun e w' ⟨h1, h2⟩ => ⟨h1, by rw [h2]; exact (Kept.refl No w).alloc _⟩
theorem sum_3 (w : World) : Calls Tryd.prog 21 #[.slice (some ⟨w.heap.size, 0, none⟩) 3 3] (w.alloc (.cells #[.int .u8 0, .int .u8 2, .int .u8 1] 5)) fun e w' => e = .returned (.int .u32 506510) ∧ Kept No w w' := by
  have h := psum_any (l := [0, 2, 1]) (by decide) (rd_lit w (l := [0, 2, 1]) (by decide))
  rw [kn_10] at h
  exact h.mono fun e w' ⟨h1, h2⟩ => ⟨h1, by rw [h2]; exact (Kept.refl No w).alloc _⟩
theorem sum_0 (w : World) : Calls Tryd.prog 21 #[.slice none 0 0] w fun e w' => e = .returned (.int .u32 17) ∧ Kept No w w' := by
  have h := psum_any (l := []) (by decide) (rd_nil w (fun _ => True) 1)
  rw [kn_8] at h
  exact h.mono fun e w' ⟨h1, h2⟩ => ⟨h1, by rw [h2]; exact Kept.refl No w⟩
theorem wrong_2w (w : World) {v : Value} (h : CrdsAt w (fun _ => True) v [cWell, cWell]) : Calls Tryd.prog 8 #[.int .i64 11, v] w fun e w' => e = .returned (.bool true) ∧ Kept No w w' := by
  have h := wrong_any (l := [cWell, cWell]) (by decide) (fun c hc => by
    have : cvalid c = true := by simp at hc; subst hc; decide
    exact sm_of_valid this) (by rw [kn_11]; decide) h
  rw [kn_11] at h
  exact h
theorem sm_bad : Sm cBad := ⟨by decide, by decide, by decide, fun t ht => (by cases ht), by decide, by decide⟩
theorem wrong_bad (w : World) {v : Value} (h : CrdsAt w (fun _ => True) v [cBad]) : Calls Tryd.prog 8 #[.int .i64 2, v] w fun e w' => e = .returned (.bool true) ∧ Kept No w w' := by
  have h := wrong_any (l := [cBad]) (by decide) (fun c hc => by simp at hc; subst hc; exact sm_bad) (by rw [kn_12]; decide) h
  rw [kn_12] at h
  exact h
theorem dec_208 (w : World) : Calls Tryd.prog 9 #[.slice (some ⟨w.heap.size, 0, none⟩) 6 6, .int .i64 10] (w.alloc (.cells #[.int .u8 0, .int .u8 0, .int .u8 0, .int .u8 0, .int .u8 63, .int .u8 208] 5)) fun e w' => e = .returned (.bool true) ∧ Kept No w w' := by
  have h := decodes_any (b := [0, 0, 0, 0, 63, 208]) (by decide) (by rw [kn_16]; decide) (rd_lit w (l := [0, 0, 0, 0, 63, 208]) (by decide))
  rw [kn_16] at h
  exact h.mono fun e w' ⟨h1, h2⟩ => ⟨h1, ((Kept.refl No w).alloc _).and h2⟩
theorem dec_00 (w : World) : Calls Tryd.prog 9 #[.slice (some ⟨w.heap.size, 0, none⟩) 2 2, .int .i64 4] (w.alloc (.cells #[.int .u8 0, .int .u8 0] 5)) fun e w' => e = .returned (.bool true) ∧ Kept No w w' := by
  have h := decodes_any (b := [0, 0]) (by decide) (by rw [kn_17]; decide) (rd_lit w (l := [0, 0]) (by decide))
  rw [kn_17] at h
  exact h.mono fun e w' ⟨h1, h2⟩ => ⟨h1, ((Kept.refl No w).alloc _).and h2⟩
theorem crds_nil (W : World) : CrdsAt W (fun _ => True) (.slice none 0 0) [] := ⟨[], rd_nil _ _ _, rfl⟩
set_option maxRecDepth 100000 in
theorem kn_start (w : World) : KnS w.heap.size w (((w.alloc (.cells #[.string { data := #[87, 101, 108, 108] }, .int .i64 1, .int .i64 0, .int .i64 0, .int .i64 0, .int .i64 0, .int .i64 0, .int .i64 1, .int .i64 0, .int .i64 0, .int .i64 0, .slice none 0 0, .slice none 0 0, .int .i64 1] 35)).alloc (.cells #[.int .i64 1, .int .i64 5, .int .i64 3, .int .i64 0, .int .i64 0] 64)).alloc (.cells #[.string { data := #[74, 111, 108, 116] }, .int .i64 4, .int .i64 1, .int .i64 0, .int .i64 0, .int .i64 0, .int .i64 0, .int .i64 0, .int .i64 0, .int .i64 0, .int .i64 0, .slice (some ⟨w.heap.size + 1, 0, none⟩) 1 1, .slice none 0 0, .int .i64 1] 35)) := by
  have s1 : (w.alloc (.cells #[.string { data := #[87, 101, 108, 108] }, .int .i64 1, .int .i64 0, .int .i64 0, .int .i64 0, .int .i64 0, .int .i64 0, .int .i64 1, .int .i64 0, .int .i64 0, .int .i64 0, .slice none 0 0, .slice none 0 0, .int .i64 1] 35)).heap.size = w.heap.size + 1 := by simp
  have s2 : ((w.alloc (.cells #[.string { data := #[87, 101, 108, 108] }, .int .i64 1, .int .i64 0, .int .i64 0, .int .i64 0, .int .i64 0, .int .i64 0, .int .i64 1, .int .i64 0, .int .i64 0, .int .i64 0, .slice none 0 0, .slice none 0 0, .int .i64 1] 35)).alloc (.cells #[.int .i64 1, .int .i64 5, .int .i64 3, .int .i64 0, .int .i64 0] 64)).heap.size = w.heap.size + 1 + 1 := by simp
  have h0 := heap_alloc_new w (.cells #[.string { data := #[87, 101, 108, 108] }, .int .i64 1, .int .i64 0, .int .i64 0, .int .i64 0, .int .i64 0, .int .i64 0, .int .i64 1, .int .i64 0, .int .i64 0, .int .i64 0, .slice none 0 0, .slice none 0 0, .int .i64 1] 35)
  have h1 := heap_alloc_new (w.alloc (.cells #[.string { data := #[87, 101, 108, 108] }, .int .i64 1, .int .i64 0, .int .i64 0, .int .i64 0, .int .i64 0, .int .i64 0, .int .i64 1, .int .i64 0, .int .i64 0, .int .i64 0, .slice none 0 0, .slice none 0 0, .int .i64 1] 35)) (.cells #[.int .i64 1, .int .i64 5, .int .i64 3, .int .i64 0, .int .i64 0] 64)
  rw [s1] at h1
  have h2 := heap_alloc_new ((w.alloc (.cells #[.string { data := #[87, 101, 108, 108] }, .int .i64 1, .int .i64 0, .int .i64 0, .int .i64 0, .int .i64 0, .int .i64 0, .int .i64 1, .int .i64 0, .int .i64 0, .int .i64 0, .slice none 0 0, .slice none 0 0, .int .i64 1] 35)).alloc (.cells #[.int .i64 1, .int .i64 5, .int .i64 3, .int .i64 0, .int .i64 0] 64)) (.cells #[.string { data := #[74, 111, 108, 116] }, .int .i64 4, .int .i64 1, .int .i64 0, .int .i64 0, .int .i64 0, .int .i64 0, .int .i64 0, .int .i64 0, .int .i64 0, .int .i64 0, .slice (some ⟨w.heap.size + 1, 0, none⟩) 1 1, .slice none 0 0, .int .i64 1] 35)
  rw [s2] at h2
  refine ⟨obj_alloc (obj_alloc h0 _) _, h2, ?_, (((Kept.refl No w).alloc _).alloc _).alloc _⟩
  exact (rd_obj (obj_alloc h1 _) (n := 1) (size := 5) rfl (by decide) (Nat.le_refl _) (fun j u hj => by
    match j, hj with
    | 0, hj => exact hj
    | 1, hj => exact hj
    | 2, hj => exact hj
    | 3, hj => exact hj
    | 4, hj => exact hj)).mono (fun _ _ _ => trivial)
set_option maxRecDepth 100000 in
set_option maxHeartbeats 8000000 in
theorem known_any (w : World) : Calls Tryd.prog 6 #[] w fun e w' => e = .returned (.bool true) ∧ Kept No w w' := by
  have HS0 := Lib.hid (kn_start w)
  have HNEW := Lib.hid (fun W v (h : CrdsAt W (fun _ => True) v [cWell, cJolt]) => pnew_any (l := [cWell, cJolt]) (by decide) (fun c hc => sm_of_valid ((wrong_out kn_1).2.1 c hc)) h)
  go_enter Tryd.func6, Tryd.ntmps6
  go_wp2_with fail
  refine (HNEW.out _ _ (HS0.out.crds (by simp))).mono ?_
  rintro e w2 ⟨hk2, ⟨_, p, rfl, hp⟩ | ⟨h0, _⟩⟩
  rotate_left
  · exact absurd kn_1 h0
  have hs2 := (HS0.out.no ((Kept.refl No _).alloc _)).no hk2
  have HS2 := Lib.hid hs2
  obtain ⟨g, hg⟩ : ∃ g, w.heap.size = g := ⟨_, rfl⟩
  rw [hg] at HS2 hs2 ⊢
  obtain ⟨pg, pm, pv, rfl, hpis⟩ := hp
  have HP2 := Lib.hid (show PoolAt w2 (fun _ => True) (.pointer (some ⟨pg, 0, none⟩)) [cWell, cJolt] from PoolAt.mono ⟨pg, pm, pv, rfl, hpis⟩ (fun _ _ _ => trivial))
  obtain ⟨m0, m1, m2, m3, m4, m5, m6, m7, m8, m9, m10, m11, m12, m13⟩ := hs2.well.cells
  obtain ⟨n0, n1, n2, n3, n4, n5, n6, n7, n8, n9, n10, n11, n12, n13⟩ := hs2.jolt.cells
  have HG := Lib.hid hg
  clear hk2 hpis hg hs2 HS0
  go_wp2_with fail
  have HF1 := Lib.hid (fun W (hk : Kept No w2 W) => (show Calls Tryd.prog 17 #[.pointer (some ⟨pg, 0, none⟩), .string { data := #[74, 111, 108, 116] }, .int .i64 1, .int .i64 0] W _ from finds_any (s := .string (strOf [74, 111, 108, 116])) (a := 1) (b := 0) (findV_at kn_2 ▸ find_any (HP2.out.no hk) (by decide))))
  have HF2 := Lib.hid (fun W (hk : Kept No w2 W) => (show Calls Tryd.prog 17 #[.pointer (some ⟨pg, 0, none⟩), .string { data := #[87, 105, 115, 112] }, .int .i64 0, .int .i64 9] W _ from finds_any (s := .string (strOf [87, 105, 115, 112])) (a := 0) (b := 9) (findV_no kn_3 ▸ find_any (HP2.out.no hk) (by decide))))
  refine (looks_any kn_1 (HP2.out.no ((Kept.refl No w2).alloc _)) (HS2.out.crds rfl)).mono ?_
  rintro e w3 ⟨rfl, hk⟩
  have HK3 := Lib.hid (((Kept.refl No w2).alloc _).and hk)
  clear hk m0 m1 m2 m3 m4 m5 m6 m7 m8 m9 m10 m11 m12 m13 n0 n1 n2 n3 n4 n5 n6 n7 n8 n9 n10 n11 n12 n13
  go_wp2_with fail
  refine (HF1.out _ HK3.out).mono ?_
  rintro e w4 ⟨rfl, rfl⟩
  go_wp2_with fail
  refine (HF2.out _ HK3.out).mono ?_
  rintro e w5 ⟨rfl, rfl⟩
  go_wp2_with fail
  refine (pencode_any (HP2.out.no HK3.out) kn_1).mono ?_
  rintro e w6 ⟨vb, rfl, hb, hk⟩
  obtain ⟨adb, cpb, rfl⟩ := owned_slice hb
  rw [kn_4]
  have HK6 := Lib.hid (HK3.out.and hk)
  clear hb hk
  go_wp2_with fail
  refine (select_any 4 0 (HP2.out.no HK6.out) (by decide)).mono ?_
  rintro e w7 ⟨v7, rfl, h7, hk⟩
  rw [kn_5] at h7
  have HK7 := Lib.hid (HK6.out.and hk)
  obtain ⟨ad7, cp7, rfl⟩ := owned_slice h7
  have H7 := Lib.hid h7
  clear h7 hk
  go_wp2_with fail
  refine (same_lit (l := [1]) (by decide) H7.out).mono ?_
  rintro e w8 ⟨rfl, hk⟩
  have HK8 := Lib.hid (HK7.out.and hk)
  clear hk
  go_wp2_with fail
  refine (select_any 0 1 (HP2.out.no HK8.out) (by decide)).mono ?_
  rintro e w9 ⟨v9, rfl, h9, hk⟩
  rw [kn_6] at h9
  have HK9 := Lib.hid (HK8.out.and hk)
  obtain ⟨ad9, cp9, rfl⟩ := owned_slice h9
  have H9 := Lib.hid h9
  clear h9 hk
  go_wp2_with fail
  refine (same_lit (l := [0, 1]) (by decide) H9.out).mono ?_
  rintro e w10 ⟨rfl, hk⟩
  have HK10 := Lib.hid (HK9.out.and hk)
  clear hk
  go_wp2_with fail
  refine (select_any 4 2 (HP2.out.no HK10.out) (by decide)).mono ?_
  rintro e w11 ⟨v11, rfl, h11, hk⟩
  rw [kn_7] at h11
  have HK11 := Lib.hid (HK10.out.and hk)
  obtain ⟨ad11, cp11, rfl⟩ := owned_slice h11
  clear h11 hk
  go_wp2_with fail
  refine (shows_any (p := .pointer (some ⟨pg, 0, none⟩)) (i := 2) (er := 3) sm_zC (zc_at _) (fun W2 hk2 => show_no (card_out (HP2.out.no (HK11.out.and hk2)) (Or.inr (by decide))))).mono ?_
  rintro e w12 ⟨rfl, hk⟩
  have HK12 := Lib.hid (HK11.out.and hk)
  clear hk
  go_wp2_with fail
  refine (sum_0 _).mono ?_
  rintro e w13 ⟨rfl, hk⟩
  have HK13 := Lib.hid (HK12.out.and hk)
  clear hk
  go_wp2_with fail
  refine (sum_1 _).mono ?_
  rintro e w14 ⟨rfl, hk⟩
  have HK14 := Lib.hid (HK13.out.and hk)
  clear hk
  go_wp2_with fail
  refine (sum_3 _).mono ?_
  rintro e w15 ⟨rfl, hk⟩
  have HK15 := Lib.hid (HK14.out.and hk)
  have hs15 := HS2.out.no HK15.out
  obtain ⟨m0, m1, m2, m3, m4, m5, m6, m7, m8, m9, m10, m11, m12, m13⟩ := hs15.well.cells
  clear hk hs15
  go_wp2_with fail
  refine (wrong_2w _ (crds2 (heap_alloc_new w15 _) (crd_nil _ rfl rfl) (crd_nil _ rfl rfl))).mono ?_
  rintro e w16 ⟨rfl, hk⟩
  have HK16 := Lib.hid ((HK15.out.alloc _).and hk)
  clear hk m0 m1 m2 m3 m4 m5 m6 m7 m8 m9 m10 m11 m12 m13
  go_wp2_with fail
  refine (wrong_bad _ (crds1 (heap_alloc_new w16 _) (crd_nil _ rfl rfl))).mono ?_
  rintro e w17 ⟨rfl, hk⟩
  have HK17 := Lib.hid ((HK16.out.alloc _).and hk)
  clear hk
  go_wp2_with fail
  refine (pnew_any (l := []) (by decide) (fun c hc => by cases hc) (crds_nil _)).mono ?_
  rintro e w18 ⟨hk, ⟨_, p2, rfl, hp⟩ | ⟨h0, _⟩⟩
  rotate_left
  · exact absurd kn_13 h0
  have HK18 := Lib.hid (HK17.out.and hk)
  obtain ⟨pg2, pm2, pv2, rfl, hpis⟩ := hp
  have HP18 := Lib.hid (show PoolAt w18 (fun _ => True) (.pointer (some ⟨pg2, 0, none⟩)) [] from PoolAt.mono ⟨pg2, pm2, pv2, rfl, hpis⟩ (fun _ _ _ => trivial))
  clear hk hpis
  go_wp2_with fail
  have HR0 := Lib.hid (rd_lit w18 (l := [0, 0, 0, 0, 63, 209]) (by decide))
  obtain ⟨W18, hW18⟩ : ∃ W, w18.alloc (.cells #[.int .u8 0, .int .u8 0, .int .u8 0, .int .u8 0, .int .u8 63, .int .u8 209] 5) = W := ⟨_, rfl⟩
  have HR0 := Lib.hid (show Rd W18 (fun _ => True) 1 (.slice (some ⟨w18.heap.size, 0, none⟩) 6 6) 6 (bts [0, 0, 0, 0, 63, 209]) from hW18 ▸ HR0.out)
  have HKa := Lib.hid (show Kept No w18 W18 by rw [← hW18]; exact (Kept.refl No w18).alloc _)
  obtain ⟨b0, hb0⟩ : ∃ b0, w18.heap.size = b0 := ⟨_, rfl⟩
  rw [hb0] at HR0
  rw [hW18, hb0]
  refine (pencode_any (HP18.out.no HKa.out) kn_13).mono ?_
  rintro e w19 ⟨vb, rfl, hb, hk⟩
  rw [kn_14] at hb
  obtain ⟨adx, cpx, rfl⟩ := owned_slice hb
  have HB19 := Lib.hid (show w19.ownsRow W18.heap.size 5 1 (.slice adx 6 cpx) 6 (bts [0, 0, 0, 0, 63, 209]) from hb)
  have HKb := Lib.hid hk
  clear hb hk hW18 hb0
  go_wp2_with fail
  refine (pdecode_any (b := [0, 0, 0, 0, 63, 209]) (by decide) (rd_no HR0.out HKb.out)).mono ?_
  rintro e w20 ⟨hk, hq⟩
  rw [kn_15] at hq
  obtain ⟨_, p3, rfl, hp3⟩ | ⟨h0, _⟩ := hq
  rotate_left
  · exact absurd rfl h0
  obtain ⟨pg3, pm3, pv3, rfl, hpis⟩ := hp3
  have HP20 := Lib.hid (show PoolAt w20 (fun _ => True) (.pointer (some ⟨pg3, 0, none⟩)) [] from PoolAt.mono ⟨pg3, pm3, pv3, rfl, hpis⟩ (fun _ _ _ => trivial))
  have HK20 := Lib.hid (HK18.out.and (HKa.out.and (HKb.out.and hk)))
  have hcv1 := run_string_rd (P := Tryd.prog) Tryd.underlying24 Tryd.underlying5 Tryd.underlying9 (rd_no (rd_owned HB19.out) hk)
  have hcv2 := run_string_rd (P := Tryd.prog) Tryd.underlying24 Tryd.underlying5 Tryd.underlying9 (rd_no HR0.out (HKb.out.and hk))
  clear hk hpis
  go_wp2_with fail
  refine (looks_any kn_13 HP20.out (crds_nil w20)).mono ?_
  rintro e w21 ⟨rfl, hk⟩
  have HK21 := Lib.hid (HK20.out.and hk)
  clear hk hcv1 hcv2
  go_wp2_with fail
  refine (dec_208 _).mono ?_
  rintro e w22 ⟨rfl, hk⟩
  have HK22 := Lib.hid (HK21.out.and hk)
  clear hk
  go_wp2_with fail
  refine (dec_00 _).mono ?_
  rintro e w23 ⟨rfl, hk⟩
  have HK23 := Lib.hid (HK22.out.and hk)
  clear hk
  go_wp2_with fail
  go_ret
  exact ⟨rfl, HS2.out.kept.and HK23.out⟩
end Go.Proofs.YtclgoilfclmibaaDoor
