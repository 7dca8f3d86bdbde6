/-
  Bracket: a bracket looks like its model: alike.
-/
import Derived.Test.YtphlpclhmodekaaDoorWalkY
import Derived.Deep.CutRange
set_option linter.unusedVariables false
set_option linter.unusedSimpArgs false
namespace Go.Proofs.YtphlpclhmodekaaDoor
open Go.RowKit Go.Zn
attribute [local go_sem] Oper.semAt_some

/-- a bracket and its model -/
structure AS (k E : Nat) (f : Nat → Nat) (b g r cap : Nat) (w : World) : Prop where
  bs : BS k E f b w
  ms : MS k E f g r cap w
theorem AS.no {k E : Nat} {f : Nat → Nat} {b g r cap : Nat} {w w' : World} (h : AS k E f b g r cap w) (hk : Kept No w w') : AS k E f b g r cap w' := ⟨h.bs.to hk (not_no _), h.ms.no hk⟩
theorem aseat {k E : Nat} {f : Nat → Nat} {b : Nat} {w : World} (hB : BS k E f b w) {m : Nat} (hm : m + 1 < 2 ^ k) : Calls Tryd.prog 19 #[.pointer (some ⟨b, 0, none⟩), .int .i64 (m : Nat), .int .i64 (seatsF k E f m).1, .int .i64 (seatsF k E f m).2, .int .i64 0] w fun e w' => e = .returned (.bool true) ∧ w' = w := by
  have := seatsL_any (a := (seatsF k E f m).1) (c := (seatsF k E f m).2) (z := 0) (seats_in hB hm)
  simpa using this
theorem aseat_out {k E : Nat} {f : Nat → Nat} {b : Nat} {w : World} (hB : BS k E f b w) {m : Int} (hm : m < 0 ∨ ((2 ^ k : Nat) : Int) - 1 ≤ m) : Calls Tryd.prog 19 #[.pointer (some ⟨b, 0, none⟩), .int .i64 m, .int .i64 0, .int .i64 0, .int .i64 3] w fun e w' => e = .returned (.bool true) ∧ w' = w := by
  have := seatsL_any (a := 0) (c := 0) (z := 3) (seats_out hB hm)
  simpa using this
theorem arank {k E : Nat} {f : Nat → Nat} {b : Nat} {w : World} (hB : BS k E f b w) {e p : Nat} (he : e < E) (hp : seedK k p = e) (pl : p < 2 ^ k) : Calls Tryd.prog 20 #[.pointer (some ⟨b, 0, none⟩), .int .i64 (e : Nat), .int .i64 (rankF k E f e p), .int .i64 0] w fun x w' => x = .returned (.bool true) ∧ w' = w := by
  have := ranksL_any (a := rankF k E f e p) (z := 0) (rank_in hB he hp pl)
  simpa using this
theorem arank_out {k E : Nat} {f : Nat → Nat} {b : Nat} {w : World} (hB : BS k E f b w) {e : Int} (he : e < 0 ∨ (E : Int) ≤ e) : Calls Tryd.prog 20 #[.pointer (some ⟨b, 0, none⟩), .int .i64 e, .int .i64 0, .int .i64 9] w fun x w' => x = .returned (.bool true) ∧ w' = w := by
  have := ranksL_any (a := 0) (z := 9) (rank_out hB he)
  simpa using this
theorem aints {w w1 w2 : World} {u v : Value} {l : List Nat} (hu : Rd w (fun i => w1.heap.size ≤ i) 1 u l.length (ints l)) (hv : Rd w (fun i => w2.heap.size ≤ i) 1 v l.length (ints l)) : Calls Tryd.prog 27 #[u, v] w fun e w' => e = .returned (.bool true) ∧ Kept No w w' := kints (w' := w) hu hv

set_option maxRecDepth 100000 in
set_option maxHeartbeats 16000000 in
theorem alike_any {k E : Nat} {f : Nat → Nat} {b g r cap : Nat} {w : World} (hA : AS k E f b g r cap w) : Calls Tryd.prog 17 #[.pointer (some ⟨b, 0, none⟩), .pointer (some ⟨g, 0, none⟩)] w fun e w' => e = .returned (.bool true) ∧ Kept No w w' := by
  have hz := hA.bs.z
  have hle : 2 ^ k ≤ 64 := hz.le
  have hwf := hA.bs.wf
  obtain ⟨H, hH, hH1, hH2, _⟩ := hz.pow
  have HZ := Lib.hid hz
  have HMA := Lib.hid (fun w (h : AS k E f b g r cap w) => matches_any h.bs)
  have HT1 := Lib.hid (fun w (h : AS k E f b g r cap w) => text_any h.bs)
  have HT2 := Lib.hid (fun w (h : AS k E f b g r cap w) => textM_any h.ms hwf)
  have HO1 := Lib.hid (fun w (h : AS k E f b g r cap w) => openl_any h.bs)
  have HO2 := Lib.hid (fun w (h : AS k E f b g r cap w) => openlM_any h.ms)
  have HC1 := Lib.hid (fun w (h : AS k E f b g r cap w) => champion_any h.bs)
  have HSM := Lib.hid (fun w (h : AS k E f b g r cap w) m (hm : m + 1 < 2 ^ k) => seatsM_any h.ms hm)
  have HSB := Lib.hid (fun w (h : AS k E f b g r cap w) m (hm : m + 1 < 2 ^ k) => aseat h.bs hm)
  obtain ⟨S, hS⟩ : ∃ S, 2 ^ k = S := ⟨_, rfl⟩
  have HC2 := Lib.hid (fun w (h : AS k E f b g r cap w) => (show Calls Tryd.prog 39 #[.pointer (some ⟨g, 0, none⟩), .int .i64 (((S - 1 : Nat) : Int) - 1)] w fun e w' => e = .returned (.int .i64 (winF k E f (S - 2))) ∧ Kept No w w' by
    have := winnerM_any h.ms (m := S - 2) (by omega)
    rw [show (((S - 2 : Nat) : Int)) = ((S - 1 : Nat) : Int) - 1 by omega] at this
    exact this))
  have HS1 := Lib.hid (fun w (h : AS k E f b g r cap w) => aseat_out h.bs (m := -1) (by omega))
  have HS2 := Lib.hid (fun w (h : AS k E f b g r cap w) => aseat_out h.bs (m := ((S - 1 : Nat) : Int)) (by omega))
  have HR1 := Lib.hid (fun w (h : AS k E f b g r cap w) => arank_out h.bs (e := -1) (by omega))
  have HR2 := Lib.hid (fun w (h : AS k E f b g r cap w) => arank_out h.bs (e := (E : Nat)) (by omega))
  have HRW := Lib.hid (fun w (h : AS k E f b g r cap w) => (show w.cell? ⟨g, 2, none⟩ = some (.slice (some ⟨r, 0, none⟩) (S - 1) cap) by rw [← hS]; exact h.ms.row))
  have HEN := Lib.hid (fun w (h : AS k E f b g r cap w) => h.ms.ent)
  rw [hS] at HMA HO1 HO2 HC1 HSM HSB
  have HS64 := Lib.hid (show 2 ≤ S ∧ S ≤ 64 by omega)
  have q1 := pred_in (i := S - 1) (by omega)
  obtain ⟨X, hX⟩ : ∃ X, strOf (textF k E f) = X := ⟨_, rfl⟩
  rw [hX] at HT1 HT2
  obtain ⟨O, hO⟩ : ∃ O, openL k E f (S - 1) = O := ⟨_, rfl⟩
  rw [hO] at HO1 HO2
  obtain ⟨C, hC⟩ : ∃ C, winF k E f (S - 2) = C := ⟨_, rfl⟩
  rw [hC] at HC1 HC2
  have HA := Lib.hid hA
  have cr := HRW.out w hA
  have ce := HEN.out w hA
  clear hz hle hwf hH hH1 hH2 hS hX hO hC hA
  have HMA := Lib.hid (fun w (h : AS k E f b g r cap w) => (HMA.out w h).mono (R' := fun e w' => e = _ ∧ Kept No w w') fun e w' ⟨he, hk⟩ => ⟨he, hk ▸ Kept.refl No w⟩)
  have HC1 := Lib.hid (fun w (h : AS k E f b g r cap w) => (HC1.out w h).mono (R' := fun e w' => e = _ ∧ Kept No w w') fun e w' ⟨he, hk⟩ => ⟨he, hk ▸ Kept.refl No w⟩)
  have HS1 := Lib.hid (fun w (h : AS k E f b g r cap w) => (HS1.out w h).mono (R' := fun e w' => e = _ ∧ Kept No w w') fun e w' ⟨he, hk⟩ => ⟨he, hk ▸ Kept.refl No w⟩)
  have HS2 := Lib.hid (fun w (h : AS k E f b g r cap w) => (HS2.out w h).mono (R' := fun e w' => e = _ ∧ Kept No w w') fun e w' ⟨he, hk⟩ => ⟨he, hk ▸ Kept.refl No w⟩)
  have HR1 := Lib.hid (fun w (h : AS k E f b g r cap w) => (HR1.out w h).mono (R' := fun e w' => e = _ ∧ Kept No w w') fun e w' ⟨he, hk⟩ => ⟨he, hk ▸ Kept.refl No w⟩)
  have HR2 := Lib.hid (fun w (h : AS k E f b g r cap w) => (HR2.out w h).mono (R' := fun e w' => e = _ ∧ Kept No w w') fun e w' ⟨he, hk⟩ => ⟨he, hk ▸ Kept.refl No w⟩)
  have HK := Lib.hid (Kept.refl No w)
  have HRK := Lib.hid (fun w (h : AS k E f b g r cap w) e p (he : e < E) (hp : seedK k p = e) (pl : p < 2 ^ k) => rankM_any h.ms he hp pl)
  have HRB := Lib.hid (fun w (h : AS k E f b g r cap w) e p (he : e < E) (hp : seedK k p = e) (pl : p < 2 ^ k) => arank h.bs he hp pl)
  go_enter Tryd.func17, Tryd.ntmps17
  go_wp2_with fail
  go_cut [76] from 8 (fun v wx => v = .bool false ∧ AS k E f b g r cap wx ∧ Kept No w wx)
  case first =>
    simp only [List.append]
    go_region_held3 (fun w' => w'.cell? ⟨g, 2, none⟩ = some (.slice (some ⟨r, 0, none⟩) (S - 1) cap) ∧ w'.cell? ⟨g, 0, none⟩ = some (.int .i64 (E : Nat))) (first | go_keep | exact ⟨cr, ce⟩)
      (first | (go_at_call 21; (with_reducible refine (HMA.out _ (by first | exact HA.out | exact HA.out.no ((Kept.refl No _).drew))).mono ?_); rintro e9 wz ⟨rfl, hk⟩; have HK := Lib.hid (by first | exact HK.out.and hk | exact HK.out.and hk.of_drew : Kept No w wz); have HA := Lib.hid (by first | exact HA.out.no hk | exact HA.out.no hk.of_drew : AS k E f b g r cap wz); have cr := HRW.out _ HA.out; have ce := HEN.out _ HA.out; clear hk) | (go_at_call 12; (with_reducible refine (HT1.out _ (by first | exact HA.out | exact HA.out.no ((Kept.refl No _).drew))).mono ?_); rintro e9 wz ⟨rfl, hk⟩; have HK := Lib.hid (by first | exact HK.out.and hk | exact HK.out.and hk.of_drew : Kept No w wz); have HA := Lib.hid (by first | exact HA.out.no hk | exact HA.out.no hk.of_drew : AS k E f b g r cap wz); have cr := HRW.out _ HA.out; have ce := HEN.out _ HA.out; clear hk) | (go_at_call 25; (with_reducible refine (HT2.out _ (by first | exact HA.out | exact HA.out.no ((Kept.refl No _).drew))).mono ?_); rintro e9 wz ⟨rfl, hk⟩; have HK := Lib.hid (by first | exact HK.out.and hk | exact HK.out.and hk.of_drew : Kept No w wz); have HA := Lib.hid (by first | exact HA.out.no hk | exact HA.out.no hk.of_drew : AS k E f b g r cap wz); have cr := HRW.out _ HA.out; have ce := HEN.out _ HA.out; clear hk) | (go_at_call 10; (with_reducible refine (HO1.out _ (by first | exact HA.out | exact HA.out.no ((Kept.refl No _).drew))).mono ?_); rintro e9 wz ⟨v1, rfl, hrd1, hk⟩; obtain ⟨ad1, cp1, rfl⟩ := rd_slice hrd1; have HRD1 := Lib.hid hrd1; clear hrd1; have HK := Lib.hid (by first | exact HK.out.and hk | exact HK.out.and hk.of_drew : Kept No w wz); have HA := Lib.hid (by first | exact HA.out.no hk | exact HA.out.no hk.of_drew : AS k E f b g r cap wz); have cr := HRW.out _ HA.out; have ce := HEN.out _ HA.out; clear hk) | (go_at_call 38; (with_reducible refine (HO2.out _ (by first | exact HA.out | exact HA.out.no ((Kept.refl No _).drew))).mono ?_); rintro e9 wz ⟨v2, rfl, hrd2, hk⟩; obtain ⟨ad2, cp2, rfl⟩ := rd_slice hrd2; have HIN := Lib.hid (aints (HRD1.out.kept hk (fun _ _ _ => not_no _)) hrd2); clear hrd2; have HK := Lib.hid (by first | exact HK.out.and hk | exact HK.out.and hk.of_drew : Kept No w wz); have HA := Lib.hid (by first | exact HA.out.no hk | exact HA.out.no hk.of_drew : AS k E f b g r cap wz); have cr := HRW.out _ HA.out; have ce := HEN.out _ HA.out; clear hk) | (go_at_call 27; (with_reducible refine HIN.out.mono ?_); rintro e9 wz ⟨rfl, hk⟩; have HK := Lib.hid (by first | exact HK.out.and hk | exact HK.out.and hk.of_drew : Kept No w wz); have HA := Lib.hid (by first | exact HA.out.no hk | exact HA.out.no hk.of_drew : AS k E f b g r cap wz); have cr := HRW.out _ HA.out; have ce := HEN.out _ HA.out; clear hk) | (go_at_call 11; (with_reducible refine (HC1.out _ (by first | exact HA.out | exact HA.out.no ((Kept.refl No _).drew))).mono ?_); rintro e9 wz ⟨rfl, hk⟩; have HK := Lib.hid (by first | exact HK.out.and hk | exact HK.out.and hk.of_drew : Kept No w wz); have HA := Lib.hid (by first | exact HA.out.no hk | exact HA.out.no hk.of_drew : AS k E f b g r cap wz); have cr := HRW.out _ HA.out; have ce := HEN.out _ HA.out; clear hk) | (go_at_call 39; (with_reducible refine (HC2.out _ (by first | exact HA.out | exact HA.out.no ((Kept.refl No _).drew))).mono ?_); rintro e9 wz ⟨rfl, hk⟩; have HK := Lib.hid (by first | exact HK.out.and hk | exact HK.out.and hk.of_drew : Kept No w wz); have HA := Lib.hid (by first | exact HA.out.no hk | exact HA.out.no hk.of_drew : AS k E f b g r cap wz); have cr := HRW.out _ HA.out; have ce := HEN.out _ HA.out; clear hk) | (go_at_call 19; (with_reducible refine (HS1.out _ (by first | exact HA.out | exact HA.out.no ((Kept.refl No _).drew))).mono ?_); rintro e9 wz ⟨rfl, hk⟩; have HK := Lib.hid (by first | exact HK.out.and hk | exact HK.out.and hk.of_drew : Kept No w wz); have HA := Lib.hid (by first | exact HA.out.no hk | exact HA.out.no hk.of_drew : AS k E f b g r cap wz); have cr := HRW.out _ HA.out; have ce := HEN.out _ HA.out; clear hk) | (go_at_call 19; (with_reducible refine (HS2.out _ (by first | exact HA.out | exact HA.out.no ((Kept.refl No _).drew))).mono ?_); rintro e9 wz ⟨rfl, hk⟩; have HK := Lib.hid (by first | exact HK.out.and hk | exact HK.out.and hk.of_drew : Kept No w wz); have HA := Lib.hid (by first | exact HA.out.no hk | exact HA.out.no hk.of_drew : AS k E f b g r cap wz); have cr := HRW.out _ HA.out; have ce := HEN.out _ HA.out; clear hk) | (go_at_call 20; (with_reducible refine (HR1.out _ (by first | exact HA.out | exact HA.out.no ((Kept.refl No _).drew))).mono ?_); rintro e9 wz ⟨rfl, hk⟩; have HK := Lib.hid (by first | exact HK.out.and hk | exact HK.out.and hk.of_drew : Kept No w wz); have HA := Lib.hid (by first | exact HA.out.no hk | exact HA.out.no hk.of_drew : AS k E f b g r cap wz); have cr := HRW.out _ HA.out; have ce := HEN.out _ HA.out; clear hk) | (go_at_call 20; (with_reducible refine (HR2.out _ (by first | exact HA.out | exact HA.out.no ((Kept.refl No _).drew))).mono ?_); rintro e9 wz ⟨rfl, hk⟩; have HK := Lib.hid (by first | exact HK.out.and hk | exact HK.out.and hk.of_drew : Kept No w wz); have HA := Lib.hid (by first | exact HA.out.no hk | exact HA.out.no hk.of_drew : AS k E f b g r cap wz); have cr := HRW.out _ HA.out; have ce := HEN.out _ HA.out; clear hk))
    go_wp2_with fail
    go_meet
    exact ⟨rfl, HA.out, HK.out⟩
  case rest =>
    obtain ⟨rfl, ha, hk⟩ := hcut
    have HA1 := Lib.hid ha
    have HK1 := Lib.hid hk
    clear ha hk HA HK cr ce HMA HT1 HT2 HO1 HO2 HC1 HC2 HS1 HS2 HR1 HR2
    go_wp2_with fail
    go_loopw [5] (fun iv wr => ∃ i : Nat, iv = .int .i64 (i : Nat) ∧ i + 1 ≤ S ∧ AS k E f b g r cap wr ∧ Kept No w wr) (fun iv _ => S - (intOf iv).toNat)
    case atStart => exact ⟨0, rfl, by have := HS64.out; omega, HA1.out, HK1.out⟩
    case round =>
      clear HA1 HK1
      obtain ⟨i, rfl, hi, ha, hk⟩ := hrel
      have HA := Lib.hid ha
      have HK := Lib.hid hk
      have cr := HRW.out _ ha
      have hS64 := HS64.out.2
      clear ha hk
      by_cases hlt : i + 1 < S
      · have d1 : decide (i < S - 1) = true := decide_eq_true (by omega)
        have d1' : decide ((i : Int) < ((S - 1 : Nat) : Int)) = true := decide_eq_true (by omega)
        have q5 := succ_in (i := i) (by omega)
        have HSI := Lib.hid (HSM.out _ HA.out i hlt)
        have HSJ := Lib.hid (fun w h => HSB.out w h i hlt)
        obtain ⟨⟨x, y⟩, hxy⟩ : ∃ s, seatsF k E f i = s := ⟨_, rfl⟩
        rw [hxy] at HSI HSJ
        have HLT := Lib.hid hlt
        clear hxy hlt hi
        go_wp2_with fail
        refine HSI.out.mono ?_
        rintro e w2 ⟨q, rfl, hq, hcell, hk⟩
        have e0 := obj_cell hcell 0
        have e1 := obj_cell hcell 1
        have HA2 := Lib.hid (HA.out.no hk)
        have HK2 := Lib.hid (HK.out.and hk)
        have HSS := Lib.hid ((HSJ.out _ (HA2.out.no ((Kept.refl No w2).drew))).mono (R' := fun e w' => e = .returned (.bool true) ∧ Kept No w2 w') fun e w' ⟨he, hk⟩ => ⟨he, hk ▸ (Kept.refl No w2).drew⟩)
        clear hcell hk hq HA HK
        go_wp2_with fail
        go_region_held3 (fun w' => w'.cell? ⟨q, 0, none⟩ = some (.int .i64 x) ∧ w'.cell? ⟨q, 1, none⟩ = some (.int .i64 y)) (first | go_keep | exact ⟨e0, e1⟩)
          (first | (go_at_call 19; (with_reducible refine HSS.out.mono ?_); rintro e9 wz ⟨rfl, hk⟩; have e0 := hk.cell e0 (not_no _); have e1 := hk.cell e1 (not_no _); have HA3 := Lib.hid (HA2.out.no hk); have HK3 := Lib.hid (HK2.out.and hk); clear hk))
        go_wp2_with fail
        have hlt := HLT.out
        exact ⟨⟨i + 1, by go_num, by omega, HA3.out, HK3.out⟩, by simp [intOf]; omega⟩
      · have d1 : decide (i < S - 1) = false := decide_eq_false (by omega)
        have d1' : decide ((i : Int) < ((S - 1 : Nat) : Int)) = false := decide_eq_false (by omega)
        clear hlt hi
        go_wp2_with fail
        go_loopw [7] (fun iv wr => ∃ i : Nat, iv = .int .i64 (i : Nat) ∧ i ≤ E ∧ AS k E f b g r cap wr ∧ Kept No w wr) (fun iv _ => E - (intOf iv).toNat)
        case atStart => exact ⟨0, rfl, Nat.zero_le _, HA.out, HK.out⟩
        case round =>
          clear HA HK cr
          obtain ⟨c, rfl, hc, ha, hk⟩ := hrel
          have HA := Lib.hid ha
          have HK := Lib.hid hk
          have ce := HEN.out _ ha
          have hES := HZ.out.hi
          clear ha hk
          by_cases hlt : c < E
          · have d2 : decide (c < E) = true := decide_eq_true hlt
            have q6 := succ_in (i := c) (by have := HZ.out.le; omega)
            obtain ⟨p, pl, hp⟩ := place_of HZ.out hlt
            have HR := Lib.hid (HRK.out _ HA.out c p hlt hp pl)
            have HB := Lib.hid (fun w h => HRB.out w h c p hlt hp pl)
            obtain ⟨R, hR⟩ : ∃ R, rankF k E f c p = R := ⟨_, rfl⟩
            rw [hR] at HR HB
            have HLT := Lib.hid hlt
            clear hR hlt hp pl hc hES
            go_wp2_with fail
            refine HR.out.mono ?_
            rintro e w2 ⟨rfl, hk⟩
            have HA2 := Lib.hid (HA.out.no hk)
            have HK2 := Lib.hid (HK.out.and hk)
            clear hk
            go_wp2_with fail
            refine (HB.out _ HA2.out).mono ?_
            rintro e wz ⟨rfl, hk⟩
            have hk := hk.symm
            subst hk
            go_wp2_with fail
            have hlt := HLT.out
            exact ⟨⟨c + 1, by go_num, by omega, HA2.out, HK2.out⟩, by simp [intOf]; omega⟩
          · have d2 : decide (c < E) = false := decide_eq_false hlt
            clear hlt hc
            go_wp2_with fail
            go_ret
            exact ⟨rfl, HK.out⟩
end Go.Proofs.YtphlpclhmodekaaDoor
