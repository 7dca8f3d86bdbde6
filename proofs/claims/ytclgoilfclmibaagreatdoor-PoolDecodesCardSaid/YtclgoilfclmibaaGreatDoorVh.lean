/-
  Pool: which cards are valid by the document.
-/
import Derived.Test.YtclgoilfclmibaaGreatDoorVg
import Derived.Deep.Cut
import Derived.Deep.CutRange
import Derived.Deep.CutBlock
import Derived.Deep.RegionHeld
import Derived.OrdersHeld
set_option linter.unusedVariables false
set_option linter.unusedSimpArgs false
namespace Go.Proofs.YtclgoilfclmibaaGreatDoor
open Go Go.RowKit Go.Zn
attribute [local go_sem] Oper.semAt_some

def VtRel (l : List Trg) (w0 : World) (iv : Value) (wr : World) : Prop := ∃ i : Nat, iv = .int .i64 (i : Nat) ∧ i ≤ l.length ∧ trgsTo l i = true ∧ Kept No w0 wr
def VeRel (l : List Eff) (w0 : World) (iv : Value) (wr : World) : Prop := ∃ i : Nat, iv = .int .i64 (i : Nat) ∧ i ≤ l.length ∧ (l.take i).any itselfB = false ∧ Kept No w0 wr
set_option maxRecDepth 100000 in
set_option maxHeartbeats 32000000 in
theorem rcvalid_any {c : Crd} (hs : Sm c) {w : World} {B : Nat → Prop} {ev tv : Value} (h : CrdAt w B c ev tv) : Calls Tryz.prog 26 #[crdV c ev tv] w fun x w' => x = .returned (.bool (cvalid c)) ∧ Kept No w w' := by
  have h := h.mono (C := fun b => b < w.heap.size) fun b hb _ => hb
  obtain ⟨adt, capt, rfl⟩ := h.trgs.slice
  obtain ⟨ade, cape, rfl⟩ := rd_slice h.effs
  have HNM := Lib.hid (fun W => rnamed_any hs.name W)
  have HCO := Lib.hid (fun W => rvcost_any c.o0 c.o1 c.o2 c.o3 c.any W)
  have HAL := Lib.hid (fun W (hk : Kept No w W) => reall_any hs.effs (h.effs.no hk))
  have HEF := Lib.hid (fun W (hk : Kept No w W) => h.effs.no hk)
  have HTR := Lib.hid (fun W (hk : Kept No w W) => h.trgs.no hk)
  have HTG := Lib.hid (fun (t : Trg) (ht : t ∈ c.trgs) (ad : Option Addr) (cp : Nat) (W : World) (hv : EffsAt W (fun b => b < w.heap.size) (.slice ad t.effs.length cp) t.effs) => rtrigger_any (hs.tre t ht) hv)
  have HSM := Lib.hid hs
  have hmz := eq_manaz c.o0 c.o1 c.o2 c.o3
  obtain ⟨w1, hw1⟩ : ∃ w1, w.alloc (.cells #[.string (strOf c.name), .int .i64 c.kind, .int .i64 c.o0, .int .i64 c.o1, .int .i64 c.o2, .int .i64 c.o3, .int .i64 c.any, .int .i64 c.makes, .int .i64 c.power, .int .i64 c.tough, .int .i64 c.keys, .slice ade c.effs.length cape, .slice adt c.trgs.length capt, .int .i64 c.rarity] 46) = w1 := ⟨_, rfl⟩
  have hob : CObj w1 w.heap.size c (.slice ade c.effs.length cape) (.slice adt c.trgs.length capt) := by rw [← hw1]; exact heap_alloc_new w _
  have HO1 := Lib.hid hob
  have HK1 := Lib.hid (show Kept No w w1 by rw [← hw1]; exact (Kept.refl No w).alloc _)
  have hz : w.heap.size < w1.heap.size := obj_lt hob
  obtain ⟨m0, m1, m2, m3, m4, m5, m6, m7, m8, m9, m10, m11, m12, m13⟩ := hob.cells
  obtain ⟨cv, hcv⟩ : ∃ cv, cvalid c = cv := ⟨_, rfl⟩
  have HCV := Lib.hid hcv
  rw [hcv]
  obtain ⟨nm, hnm⟩ : ∃ nm, namedB c.name = nm := ⟨_, rfl⟩
  rw [hnm] at HNM
  clear h hs hob hcv
  go_enter Tryz.func26, Tryz.ntmps26
  go_wp2_with fail
  refine (HNM.out _).mono ?_
  rintro x w2 ⟨rfl, rfl⟩
  cases nm
  · obtain rfl : cv = false := by rw [← HCV.out, cv_name hnm]
    go_wp2_with fail
    go_ret
    exact ⟨rfl, HK1.out⟩
  by_cases r1 : c.rarity < 1
  · obtain rfl : cv = false := by rw [← HCV.out, cv_rar (.inl r1)]
    go_wp2_with fail
    go_ret
    exact ⟨rfl, HK1.out⟩
  by_cases r4 : 4 < c.rarity
  · obtain rfl : cv = false := by rw [← HCV.out, cv_rar (.inr r4)]
    go_wp2_with fail
    go_ret
    exact ⟨rfl, HK1.out⟩
  have HNR := Lib.hid (And.intro hnm (show 1 ≤ c.rarity ∧ c.rarity ≤ 4 by omega))
  go_upto_region 3 with fail
  clear hnm r1 r4
  obtain ⟨sb, hsb⟩ : ∃ sb, stillB c = sb := ⟨_, rfl⟩
  go_cut [3] from 21 to 39 (fun nv wx => nv = .bool sb ∧ wx = w2)
  case first =>
    have hst : stillB c = ((c.power == 0) && (c.tough == 0) && (c.keys == 0) && decide (c.trgs.length = 0)) := rfl
    have hN : ((c.trgs.length : Int) == 0) = decide (c.trgs.length = 0) := by by_cases h : c.trgs.length = 0 <;> simp [h]
    rw [hsb] at hst
    obtain ⟨b1, h1⟩ : ∃ a, (c.power == 0) = a := ⟨_, rfl⟩
    obtain ⟨b2, h2⟩ : ∃ a, (c.tough == 0) = a := ⟨_, rfl⟩
    obtain ⟨b3, h3⟩ : ∃ a, (c.keys == 0) = a := ⟨_, rfl⟩
    obtain ⟨b4, h4⟩ : ∃ a, decide (c.trgs.length = 0) = a := ⟨_, rfl⟩
    rw [h1, h2, h3, h4] at hst
    rw [h4] at hN
    clear h4
    cases b1
    · obtain rfl : sb = false := hst
      go_wp2_with fail
      go_meet
      exact ⟨rfl, rfl⟩
    cases b2
    · obtain rfl : sb = false := hst
      go_wp2_with fail
      go_meet
      exact ⟨rfl, rfl⟩
    cases b3
    · obtain rfl : sb = false := hst
      go_wp2_with fail
      go_meet
      exact ⟨rfl, rfl⟩
    have hst2 : sb = b4 := hst.trans (by cases b4 <;> rfl)
    clear hst hsb
    subst hst2
    go_wp2_with fail
    go_meet
    exact ⟨by first | rfl | simp [hN], rfl⟩
  case rest =>
    obtain ⟨rfl, rfl⟩ := hcut
    by_cases k1 : c.kind = 1
    · have d1 : (c.kind == 1) = true := by simpa using k1
      by_cases z0 : 0 ≤ c.makes
      rotate_left
      · obtain rfl : cv = false := by rw [← HCV.out, cv_1 k1 HNR.out.1 HNR.out.2, inB_false (by left; omega)]; rfl
        go_wp2_with fail
        go_ret
        exact ⟨rfl, HK1.out⟩
      by_cases z1 : c.makes ≤ 3
      rotate_left
      · obtain rfl : cv = false := by rw [← HCV.out, cv_1 k1 HNR.out.1 HNR.out.2, inB_false (by right; omega)]; rfl
        go_wp2_with fail
        go_ret
        exact ⟨rfl, HK1.out⟩
      by_cases z2 : c.effs.length = 0
      rotate_left
      · have e2 : ((c.effs.length : Int) == 0) = false := by simpa using z2
        obtain rfl : cv = false := by rw [← HCV.out, cv_1 k1 HNR.out.1 HNR.out.2, decide_eq_false z2, Bool.and_false]; rfl
        go_wp2_with fail
        go_ret
        exact ⟨rfl, HK1.out⟩
      have e2 : ((c.effs.length : Int) == 0) = true := by simpa using z2
      cases sb
      · obtain rfl : cv = false := by rw [← HCV.out, cv_1 k1 HNR.out.1 HNR.out.2, hsb, Bool.and_false]; rfl
        go_wp2_with fail
        go_ret
        exact ⟨rfl, HK1.out⟩
      have hR : cv = zeroC c := by rw [← HCV.out, cv_1 k1 HNR.out.1 HNR.out.2, inB_true ⟨z0, z1⟩, decide_eq_true z2, hsb]; rfl
      have hR2 : cv = (((c.o0 == 0) && ((c.o1 == 0) && ((c.o2 == 0) && (c.o3 == 0)))) && (c.any == 0)) := hR
      obtain ⟨q1, hq1⟩ : ∃ q, ((c.o0 == 0) && ((c.o1 == 0) && ((c.o2 == 0) && (c.o3 == 0)))) = q := ⟨_, rfl⟩
      obtain ⟨q2, hq2⟩ : ∃ q, (c.any == 0) = q := ⟨_, rfl⟩
      rw [hq1, hq2] at hR2
      rw [hq1] at hmz
      clear hR hq1
      cases q1
      · obtain rfl : cv = false := hR2
        go_wp2_with fail
        go_ret
        exact ⟨rfl, HK1.out⟩
      obtain rfl : cv = q2 := hR2
      cases cv
      · go_wp2_with fail
        go_ret
        exact ⟨rfl, HK1.out⟩
      · go_wp2_with fail
        go_ret
        exact ⟨rfl, HK1.out⟩
    have d1 : (c.kind == 1) = false := by simpa using k1
    clear hmz
    by_cases k2 : c.kind = 2
    · have d2 : (c.kind == 2) = true := by simpa using k2
      by_cases z0 : c.makes = 0
      rotate_left
      · have e0 : (c.makes == 0) = false := by simpa using z0
        have e0' : (c.makes != 0) = true := by simpa using z0
        obtain rfl : cv = false := by rw [← HCV.out, cv_2 k2 HNR.out.1 HNR.out.2, e0]; rfl
        go_wp2_with fail
        go_ret
        exact ⟨rfl, HK1.out⟩
      have e0 : (c.makes == 0) = true := by simpa using z0
      have e0' : (c.makes != 0) = false := by simpa using z0
      obtain ⟨qc, hqc⟩ : ∃ q, cost c.o0 c.o1 c.o2 c.o3 c.any = q := ⟨_, rfl⟩
      rw [hqc] at HCO
      go_wp2_with fail
      refine (HCO.out _).mono ?_
      rintro x w3 ⟨rfl, hk3⟩
      have hob3 := HO1.out.no hk3
      obtain ⟨m0, m1, m2, m3, m4, m5, m6, m7, m8, m9, m10, m11, m12, m13⟩ := hob3.cells
      have HO3 := Lib.hid hob3
      have HK3 := Lib.hid (HK1.out.and hk3)
      have hz3 := obj_lt hob3
      clear hk3 hob3
      cases qc
      · obtain rfl : cv = false := by rw [← HCV.out, cv_2 k2 HNR.out.1 HNR.out.2, hqc, Bool.and_false]; rfl
        go_wp2_with fail
        go_ret
        exact ⟨rfl, HK3.out⟩
      by_cases y0 : c.power < 0
      · obtain rfl : cv = false := by rw [← HCV.out, cv_2 k2 HNR.out.1 HNR.out.2, inB_false (x := c.power) (by left; omega), Bool.and_false]; rfl
        go_wp2_with fail
        go_ret
        exact ⟨rfl, HK3.out⟩
      by_cases y1 : 20 < c.power
      · obtain rfl : cv = false := by rw [← HCV.out, cv_2 k2 HNR.out.1 HNR.out.2, inB_false (x := c.power) (by right; omega), Bool.and_false]; rfl
        go_wp2_with fail
        go_ret
        exact ⟨rfl, HK3.out⟩
      by_cases y2 : c.tough < 1
      · obtain rfl : cv = false := by rw [← HCV.out, cv_2 k2 HNR.out.1 HNR.out.2, inB_false (x := c.tough) (by left; omega), Bool.and_false]; rfl
        go_wp2_with fail
        go_ret
        exact ⟨rfl, HK3.out⟩
      by_cases y3 : 20 < c.tough
      · obtain rfl : cv = false := by rw [← HCV.out, cv_2 k2 HNR.out.1 HNR.out.2, inB_false (x := c.tough) (by right; omega), Bool.and_false]; rfl
        go_wp2_with fail
        go_ret
        exact ⟨rfl, HK3.out⟩
      by_cases y4 : c.keys < 0
      · obtain rfl : cv = false := by rw [← HCV.out, cv_2 k2 HNR.out.1 HNR.out.2, inB_false (x := c.keys) (by left; omega), Bool.and_false]; rfl
        go_wp2_with fail
        go_ret
        exact ⟨rfl, HK3.out⟩
      by_cases y5 : 15 < c.keys
      · obtain rfl : cv = false := by rw [← HCV.out, cv_2 k2 HNR.out.1 HNR.out.2, inB_false (x := c.keys) (by right; omega), Bool.and_false]; rfl
        go_wp2_with fail
        go_ret
        exact ⟨rfl, HK3.out⟩
      obtain ⟨qa, hqa⟩ : ∃ q, allE c.effs = q := ⟨_, rfl⟩
      rw [hqa] at HAL
      go_wp2_with fail
      refine (HAL.out _ HK3.out).mono ?_
      rintro x w4 ⟨rfl, hk4⟩
      have hob4 := HO3.out.no hk4
      obtain ⟨m0, m1, m2, m3, m4, m5, m6, m7, m8, m9, m10, m11, m12, m13⟩ := hob4.cells
      have HO4 := Lib.hid hob4
      have HK4 := Lib.hid (HK3.out.and hk4)
      have hz4 := obj_lt hob4
      clear hk4 hob4
      cases qa
      · obtain rfl : cv = false := by rw [← HCV.out, cv_2 k2 HNR.out.1 HNR.out.2, hqa, Bool.and_false]; rfl
        go_wp2_with fail
        go_ret
        exact ⟨rfl, HK4.out⟩
      by_cases y6 : 2 < c.trgs.length
      · have y6' : 2 < (c.trgs.length : Int) := by omega
        obtain rfl : cv = false := by rw [← HCV.out, cv_2 k2 HNR.out.1 HNR.out.2, decide_eq_false (show ¬ c.trgs.length ≤ 2 by omega), Bool.and_false]; rfl
        go_wp2_with fail
        go_ret
        exact ⟨rfl, HK4.out⟩
      have y6' : ¬ (2 < (c.trgs.length : Int)) := by omega
      have HR := Lib.hid (show cv = trgsTo c.trgs c.trgs.length by
        rw [← HCV.out, cv_2 k2 HNR.out.1 HNR.out.2, e0, hqc, inB_true ⟨by omega, by omega⟩, inB_true ⟨by omega, by omega⟩, inB_true ⟨by omega, by omega⟩, hqa, decide_eq_true (show c.trgs.length ≤ 2 by omega)]
        rfl)
      have HL2 := Lib.hid (show c.trgs.length ≤ 2 by omega)
      go_wp2_with fail
      clear y0 y1 y2 y3 y4 y5 y6 y6' m0 m1 m2 m3 m4 m5 m6 m7 m8 m9 m10 m11 m12 m13 hz3 hz
      go_loopw [4] (fun iv wr => VtRel c.trgs w4 iv wr) (fun iv _ => c.trgs.length - (intOf iv).toNat)
      case atStart => exact ⟨0, rfl, Nat.zero_le _, rfl, Kept.refl No w4⟩
      case round =>
        obtain ⟨i, rfl, hi, htr, hk⟩ := hrel
        have HTO := Lib.hid htr
        have HKR := Lib.hid hk
        have hobr := HO4.out.no hk
        have m12 : wr.cell? ⟨w.heap.size, 12, none⟩ = some (.slice adt c.trgs.length capt) := obj_cell hobr 12
        have HOR := Lib.hid hobr
        have hzr := obj_lt hobr
        obtain ⟨n, hn⟩ : ∃ n, c.trgs.length = n := ⟨_, rfl⟩
        have HN := Lib.hid hn
        have hn2 : n ≤ 2 := by rw [← hn]; exact HL2.out
        rw [hn] at hi m12
        by_cases hlt : i < n
        · obtain rfl | rfl : i = 0 ∨ i = 1 := by omega
          · have hil : 0 < c.trgs.length := by rw [hn]; exact hlt
            obtain ⟨t, ht⟩ : ∃ t, c.trgs[0]? = some t := ⟨_, List.getElem?_eq_getElem hil⟩
            obtain ⟨b, off, c1, ev2, hs, hcap, g0, g1, hE⟩ := (HTR.out _ (HK4.out.and hk)).at ht
            obtain ⟨ade2, cape2, rfl⟩ := rd_slice hE
            rw [hn] at hs
            cases hs
            have g0 : wr.cell? ⟨b, off, none⟩ = some (.int .i64 t.when) := by simpa using g0
            have g1 : wr.cell? ⟨b, off + 1, none⟩ = some (.slice ade2 t.effs.length cape2) := by simpa using g1
            have HTT := Lib.hid (fun W (hk : Kept No wr W) => HTG.out t (List.mem_of_getElem? ht) ade2 cape2 W (hE.no hk))
            obtain ⟨tg, htg⟩ : ∃ q, trgOk t = q := ⟨_, rfl⟩
            rw [htg] at HTT
            have d9 : decide (0 < n) = true := decide_eq_true hlt
            have hne : ¬ n = 0 := by omega
            have hin : (0 : Int) < (n : Int) := by omega
            have HTD := Lib.hid (And.intro ht htg)
            have HI := Lib.hid hlt
            clear hk htr hlt hobr hil ht hE hcap htg hn
            go_upto_region 13 with fail
            cases tg
            · obtain rfl : cv = false := by rw [HR.out]; exact trgsTo_up (i := 1) (by rw [trgsTo, HTD.out.1]; simp [HTD.out.2]) _ (by rw [HN.out]; have := HI.out; omega)
              refine wp_region_held_drew (S := (fun W2 => Kept No wr W2)) (by kernel_rfl) (Kept.refl No wr).drew (fun hHeld => ?_)
              refine wpAnyH_take (i := 0) (v := .pointer (some ⟨w.heap.size, 12, none⟩)) rfl (by kernel_rfl) (by kernel_rfl) (by kernel_rfl) (fun _ _ _ h => h) (Or.inl ⟨by rfl, ?_⟩) (by assumption) ?_
              · intro W2 hSw; have y12 := obj_cell (hSw.obj HOR.out (not_no _)) 12; simp only [crdCs, List.getElem?_toArray, List.getElem?_cons_succ, List.getElem?_cons_zero] at y12; rw [HN.out] at y12; have k0 := hSw.cell g0 (not_no _); have k1 := hSw.cell g1 (not_no _); go_simp
              simp only [Act.put, List.getElem_toArray, List.getElem_cons_zero, List.getElem_cons_succ, List.setIfInBounds_toArray, List.set_cons_zero, List.set_cons_succ]
              refine wpAnyH_take (i := 1) (v := .slice (some ⟨b, off, none⟩) n capt) rfl (by kernel_rfl) (by kernel_rfl) (by kernel_rfl) (fun _ _ _ h => h) (Or.inl ⟨by rfl, ?_⟩) (by assumption) ?_
              · intro W2 hSw; have y12 := obj_cell (hSw.obj HOR.out (not_no _)) 12; simp only [crdCs, List.getElem?_toArray, List.getElem?_cons_succ, List.getElem?_cons_zero] at y12; rw [HN.out] at y12; have k0 := hSw.cell g0 (not_no _); have k1 := hSw.cell g1 (not_no _); go_simp
              simp only [Act.put, List.getElem_toArray, List.getElem_cons_zero, List.getElem_cons_succ, List.setIfInBounds_toArray, List.set_cons_zero, List.set_cons_succ]
              refine wpAnyH_take (i := 2) (v := .int .i64 0) rfl (by kernel_rfl) (by kernel_rfl) (by kernel_rfl) (fun _ _ _ h => h) (Or.inl ⟨by rfl, ?_⟩) (by assumption) ?_
              · intro W2 hSw; have y12 := obj_cell (hSw.obj HOR.out (not_no _)) 12; simp only [crdCs, List.getElem?_toArray, List.getElem?_cons_succ, List.getElem?_cons_zero] at y12; rw [HN.out] at y12; have k0 := hSw.cell g0 (not_no _); have k1 := hSw.cell g1 (not_no _); go_simp
              simp only [Act.put, List.getElem_toArray, List.getElem_cons_zero, List.getElem_cons_succ, List.setIfInBounds_toArray, List.set_cons_zero, List.set_cons_succ]
              refine wpAnyH_take (i := 3) (v := .pointer (some ⟨b, off, none⟩)) rfl (by kernel_rfl) (by kernel_rfl) (by kernel_rfl) (fun _ _ _ h => h) (Or.inl ⟨by rfl, ?_⟩) (by assumption) ?_
              · intro W2 hSw; have y12 := obj_cell (hSw.obj HOR.out (not_no _)) 12; simp only [crdCs, List.getElem?_toArray, List.getElem?_cons_succ, List.getElem?_cons_zero] at y12; rw [HN.out] at y12; have k0 := hSw.cell g0 (not_no _); have k1 := hSw.cell g1 (not_no _); go_simp
              simp only [Act.put, List.getElem_toArray, List.getElem_cons_zero, List.getElem_cons_succ, List.setIfInBounds_toArray, List.set_cons_zero, List.set_cons_succ]
              refine wpAnyH_take (i := 4) (v := .agg #[.int .i64 t.when, .slice ade2 t.effs.length cape2]) rfl (by kernel_rfl) (by kernel_rfl) (by kernel_rfl) (fun _ _ _ h => h) (Or.inl ⟨by rfl, ?_⟩) (by assumption) ?_
              · intro W2 hSw; have y12 := obj_cell (hSw.obj HOR.out (not_no _)) 12; simp only [crdCs, List.getElem?_toArray, List.getElem?_cons_succ, List.getElem?_cons_zero] at y12; rw [HN.out] at y12; have k0 := hSw.cell g0 (not_no _); have k1 := hSw.cell g1 (not_no _); go_simp
              simp only [Act.put, List.getElem_toArray, List.getElem_cons_zero, List.getElem_cons_succ, List.setIfInBounds_toArray, List.set_cons_zero, List.set_cons_succ]
              refine wpAnyH_ready (rs := [5]) (by kernel_rfl) (by simp) ?_
              refine AllReadyH.cons rfl (fun K hK => ?_) AllReadyH.nil
              go_simp
              refine (HTT.out _ (Kept.refl No wr).drew).mono ?_
              rintro e5 w5 ⟨rfl, hk5⟩
              have HK5 := Lib.hid ((Kept.refl No wr).drew.and hk5)
              clear hk5
              simp only []
              refine hK.out _ _ HK5.out (fun _ => ?_)
              clear hK K
              try simp only [Act.put, List.getElem_toArray, List.getElem_cons_zero, List.getElem_cons_succ, List.setIfInBounds_toArray, List.set_cons_zero, List.set_cons_succ]
              refine wpAnyH_take (i := 6) (v := .bool true) rfl (by kernel_rfl) (by kernel_rfl) (by kernel_rfl) (fun _ _ _ h => h) (Or.inl ⟨by rfl, ?_⟩) (by assumption) ?_
              · intro W2 hSw; have y12 := obj_cell (hSw.obj HOR.out (not_no _)) 12; simp only [crdCs, List.getElem?_toArray, List.getElem?_cons_succ, List.getElem?_cons_zero] at y12; rw [HN.out] at y12; have k0 := hSw.cell g0 (not_no _); have k1 := hSw.cell g1 (not_no _); go_simp
              simp only [Act.put, List.getElem_toArray, List.getElem_cons_zero, List.getElem_cons_succ, List.setIfInBounds_toArray, List.set_cons_zero, List.set_cons_succ]
              refine wpAnyH_take (i := 7) (v := .bool true) rfl (by kernel_rfl) (by kernel_rfl) (by kernel_rfl) (fun _ _ _ h => h) (Or.inl ⟨by rfl, ?_⟩) (by assumption) ?_
              · intro W2 hSw; have y12 := obj_cell (hSw.obj HOR.out (not_no _)) 12; simp only [crdCs, List.getElem?_toArray, List.getElem?_cons_succ, List.getElem?_cons_zero] at y12; rw [HN.out] at y12; have k0 := hSw.cell g0 (not_no _); have k1 := hSw.cell g1 (not_no _); go_simp
              simp only [Act.put, List.getElem_toArray, List.getElem_cons_zero, List.getElem_cons_succ, List.setIfInBounds_toArray, List.set_cons_zero, List.set_cons_succ]
              refine wpAnyH_take (i := 8) (v := undef) rfl (by kernel_rfl) (by kernel_rfl) (by kernel_rfl) (fun _ _ _ h => h) (Or.inr ⟨by rfl, rfl⟩) (by assumption) ?_
              simp only [Act.put, List.getElem_toArray, List.getElem_cons_zero, List.getElem_cons_succ, List.setIfInBounds_toArray, List.set_cons_zero, List.set_cons_succ]
              refine wpAnyH_take (i := 9) (v := undef) rfl (by kernel_rfl) (by kernel_rfl) (by kernel_rfl) (fun _ _ _ h => h) (Or.inr ⟨by rfl, rfl⟩) (by assumption) ?_
              simp only [Act.put, List.getElem_toArray, List.getElem_cons_zero, List.getElem_cons_succ, List.setIfInBounds_toArray, List.set_cons_zero, List.set_cons_succ]
              refine wpAnyH_take (i := 10) (v := undef) rfl (by kernel_rfl) (by kernel_rfl) (by kernel_rfl) (fun _ _ _ h => h) (Or.inr ⟨by rfl, rfl⟩) (by assumption) ?_
              simp only [Act.put, List.getElem_toArray, List.getElem_cons_zero, List.getElem_cons_succ, List.setIfInBounds_toArray, List.set_cons_zero, List.set_cons_succ]
              refine wpAnyH_take (i := 11) (v := undef) rfl (by kernel_rfl) (by kernel_rfl) (by kernel_rfl) (fun _ _ _ h => h) (Or.inr ⟨by rfl, rfl⟩) (by assumption) ?_
              simp only [Act.put, List.getElem_toArray, List.getElem_cons_zero, List.getElem_cons_succ, List.setIfInBounds_toArray, List.set_cons_zero, List.set_cons_succ]
              refine wpAnyH_take (i := 12) (v := undef) rfl (by kernel_rfl) (by kernel_rfl) (by kernel_rfl) (fun _ _ _ h => h) (Or.inr ⟨by rfl, rfl⟩) (by assumption) ?_
              simp only [Act.put, List.getElem_toArray, List.getElem_cons_zero, List.getElem_cons_succ, List.setIfInBounds_toArray, List.set_cons_zero, List.set_cons_succ]
              refine wpAnyH_take (i := 13) (v := undef) rfl (by kernel_rfl) (by kernel_rfl) (by kernel_rfl) (fun _ _ _ h => h) (Or.inr ⟨by rfl, rfl⟩) (by assumption) ?_
              simp only [Act.put, List.getElem_toArray, List.getElem_cons_zero, List.getElem_cons_succ, List.setIfInBounds_toArray, List.set_cons_zero, List.set_cons_succ]
              refine wpAnyH_take (i := 14) (v := undef) rfl (by kernel_rfl) (by kernel_rfl) (by kernel_rfl) (fun _ _ _ h => h) (Or.inr ⟨by rfl, rfl⟩) (by assumption) ?_
              simp only [Act.put, List.getElem_toArray, List.getElem_cons_zero, List.getElem_cons_succ, List.setIfInBounds_toArray, List.set_cons_zero, List.set_cons_succ]
              refine wpAnyH_take (i := 15) (v := undef) rfl (by kernel_rfl) (by kernel_rfl) (by kernel_rfl) (fun _ _ _ h => h) (Or.inr ⟨by rfl, rfl⟩) (by assumption) ?_
              simp only [Act.put, List.getElem_toArray, List.getElem_cons_zero, List.getElem_cons_succ, List.setIfInBounds_toArray, List.set_cons_zero, List.set_cons_succ]
              refine wpAnyH_take (i := 16) (v := undef) rfl (by kernel_rfl) (by kernel_rfl) (by kernel_rfl) (fun _ _ _ h => h) (Or.inr ⟨by rfl, rfl⟩) (by assumption) ?_
              simp only [Act.put, List.getElem_toArray, List.getElem_cons_zero, List.getElem_cons_succ, List.setIfInBounds_toArray, List.set_cons_zero, List.set_cons_succ]
              refine wpAnyH_take (i := 17) (v := undef) rfl (by kernel_rfl) (by kernel_rfl) (by kernel_rfl) (fun _ _ _ h => h) (Or.inr ⟨by rfl, rfl⟩) (by assumption) ?_
              simp only [Act.put, List.getElem_toArray, List.getElem_cons_zero, List.getElem_cons_succ, List.setIfInBounds_toArray, List.set_cons_zero, List.set_cons_succ]
              refine wpAnyH_take (i := 18) (v := undef) rfl (by kernel_rfl) (by kernel_rfl) (by kernel_rfl) (fun _ _ _ h => h) (Or.inr ⟨by rfl, rfl⟩) (by assumption) ?_
              simp only [Act.put, List.getElem_toArray, List.getElem_cons_zero, List.getElem_cons_succ, List.setIfInBounds_toArray, List.set_cons_zero, List.set_cons_succ]
              refine wpAnyH_take (i := 19) (v := undef) rfl (by kernel_rfl) (by kernel_rfl) (by kernel_rfl) (fun _ _ _ h => h) (Or.inr ⟨by rfl, rfl⟩) (by assumption) ?_
              simp only [Act.put, List.getElem_toArray, List.getElem_cons_zero, List.getElem_cons_succ, List.setIfInBounds_toArray, List.set_cons_zero, List.set_cons_succ]
              refine wpAnyH_take (i := 20) (v := undef) rfl (by kernel_rfl) (by kernel_rfl) (by kernel_rfl) (fun _ _ _ h => h) (Or.inr ⟨by rfl, rfl⟩) (by assumption) ?_
              simp only [Act.put, List.getElem_toArray, List.getElem_cons_zero, List.getElem_cons_succ, List.setIfInBounds_toArray, List.set_cons_zero, List.set_cons_succ]
              refine wpAnyH_take (i := 21) (v := undef) rfl (by kernel_rfl) (by kernel_rfl) (by kernel_rfl) (fun _ _ _ h => h) (Or.inr ⟨by rfl, rfl⟩) (by assumption) ?_
              simp only [Act.put, List.getElem_toArray, List.getElem_cons_zero, List.getElem_cons_succ, List.setIfInBounds_toArray, List.set_cons_zero, List.set_cons_succ]
              refine wpAnyH_take (i := 22) (v := undef) rfl (by kernel_rfl) (by kernel_rfl) (by kernel_rfl) (fun _ _ _ h => h) (Or.inr ⟨by rfl, rfl⟩) (by assumption) ?_
              simp only [Act.put, List.getElem_toArray, List.getElem_cons_zero, List.getElem_cons_succ, List.setIfInBounds_toArray, List.set_cons_zero, List.set_cons_succ]
              refine wpAnyH_take (i := 23) (v := .bool true) rfl (by kernel_rfl) (by kernel_rfl) (by kernel_rfl) (fun _ _ _ h => h) (Or.inl ⟨by rfl, ?_⟩) (by assumption) ?_
              · intro W2 hSw; have y12 := obj_cell (hSw.obj HOR.out (not_no _)) 12; simp only [crdCs, List.getElem?_toArray, List.getElem?_cons_succ, List.getElem?_cons_zero] at y12; rw [HN.out] at y12; have k0 := hSw.cell g0 (not_no _); have k1 := hSw.cell g1 (not_no _); go_simp
              simp only [Act.put, List.getElem_toArray, List.getElem_cons_zero, List.getElem_cons_succ, List.setIfInBounds_toArray, List.set_cons_zero, List.set_cons_succ]
              refine wpAnyH_done (by kernel_rfl) ?_ _
              go_wp2_with fail
              go_ret
              exact ⟨rfl, (HK4.out.and HKR.out).and HK5.out⟩
            have HUP := Lib.hid (show trgsTo c.trgs 1 = true by rw [trgsTo, HTD.out.1]; simp [trgsTo, HTD.out.2])
            refine wp_region_held_drew (S := (fun W2 => Kept No wr W2)) (by kernel_rfl) (Kept.refl No wr).drew (fun hHeld => ?_)
            refine wpAnyH_take (i := 0) (v := .pointer (some ⟨w.heap.size, 12, none⟩)) rfl (by kernel_rfl) (by kernel_rfl) (by kernel_rfl) (fun _ _ _ h => h) (Or.inl ⟨by rfl, ?_⟩) (by assumption) ?_
            · intro W2 hSw; have y12 := obj_cell (hSw.obj HOR.out (not_no _)) 12; simp only [crdCs, List.getElem?_toArray, List.getElem?_cons_succ, List.getElem?_cons_zero] at y12; rw [HN.out] at y12; have k0 := hSw.cell g0 (not_no _); have k1 := hSw.cell g1 (not_no _); go_simp
            simp only [Act.put, List.getElem_toArray, List.getElem_cons_zero, List.getElem_cons_succ, List.setIfInBounds_toArray, List.set_cons_zero, List.set_cons_succ]
            refine wpAnyH_take (i := 1) (v := .slice (some ⟨b, off, none⟩) n capt) rfl (by kernel_rfl) (by kernel_rfl) (by kernel_rfl) (fun _ _ _ h => h) (Or.inl ⟨by rfl, ?_⟩) (by assumption) ?_
            · intro W2 hSw; have y12 := obj_cell (hSw.obj HOR.out (not_no _)) 12; simp only [crdCs, List.getElem?_toArray, List.getElem?_cons_succ, List.getElem?_cons_zero] at y12; rw [HN.out] at y12; have k0 := hSw.cell g0 (not_no _); have k1 := hSw.cell g1 (not_no _); go_simp
            simp only [Act.put, List.getElem_toArray, List.getElem_cons_zero, List.getElem_cons_succ, List.setIfInBounds_toArray, List.set_cons_zero, List.set_cons_succ]
            refine wpAnyH_take (i := 2) (v := .int .i64 0) rfl (by kernel_rfl) (by kernel_rfl) (by kernel_rfl) (fun _ _ _ h => h) (Or.inl ⟨by rfl, ?_⟩) (by assumption) ?_
            · intro W2 hSw; have y12 := obj_cell (hSw.obj HOR.out (not_no _)) 12; simp only [crdCs, List.getElem?_toArray, List.getElem?_cons_succ, List.getElem?_cons_zero] at y12; rw [HN.out] at y12; have k0 := hSw.cell g0 (not_no _); have k1 := hSw.cell g1 (not_no _); go_simp
            simp only [Act.put, List.getElem_toArray, List.getElem_cons_zero, List.getElem_cons_succ, List.setIfInBounds_toArray, List.set_cons_zero, List.set_cons_succ]
            refine wpAnyH_take (i := 3) (v := .pointer (some ⟨b, off, none⟩)) rfl (by kernel_rfl) (by kernel_rfl) (by kernel_rfl) (fun _ _ _ h => h) (Or.inl ⟨by rfl, ?_⟩) (by assumption) ?_
            · intro W2 hSw; have y12 := obj_cell (hSw.obj HOR.out (not_no _)) 12; simp only [crdCs, List.getElem?_toArray, List.getElem?_cons_succ, List.getElem?_cons_zero] at y12; rw [HN.out] at y12; have k0 := hSw.cell g0 (not_no _); have k1 := hSw.cell g1 (not_no _); go_simp
            simp only [Act.put, List.getElem_toArray, List.getElem_cons_zero, List.getElem_cons_succ, List.setIfInBounds_toArray, List.set_cons_zero, List.set_cons_succ]
            refine wpAnyH_take (i := 4) (v := .agg #[.int .i64 t.when, .slice ade2 t.effs.length cape2]) rfl (by kernel_rfl) (by kernel_rfl) (by kernel_rfl) (fun _ _ _ h => h) (Or.inl ⟨by rfl, ?_⟩) (by assumption) ?_
            · intro W2 hSw; have y12 := obj_cell (hSw.obj HOR.out (not_no _)) 12; simp only [crdCs, List.getElem?_toArray, List.getElem?_cons_succ, List.getElem?_cons_zero] at y12; rw [HN.out] at y12; have k0 := hSw.cell g0 (not_no _); have k1 := hSw.cell g1 (not_no _); go_simp
            simp only [Act.put, List.getElem_toArray, List.getElem_cons_zero, List.getElem_cons_succ, List.setIfInBounds_toArray, List.set_cons_zero, List.set_cons_succ]
            refine wpAnyH_ready (rs := [5]) (by kernel_rfl) (by simp) ?_
            refine AllReadyH.cons rfl (fun K hK => ?_) AllReadyH.nil
            go_simp
            refine (HTT.out _ (Kept.refl No wr).drew).mono ?_
            rintro e5 w5 ⟨rfl, hk5⟩
            have HK5 := Lib.hid ((Kept.refl No wr).drew.and hk5)
            clear hk5
            simp only []
            refine hK.out _ _ HK5.out (fun _ => ?_)
            clear hK K
            try simp only [Act.put, List.getElem_toArray, List.getElem_cons_zero, List.getElem_cons_succ, List.setIfInBounds_toArray, List.set_cons_zero, List.set_cons_succ]
            refine wpAnyH_take (i := 6) (v := .bool false) rfl (by kernel_rfl) (by kernel_rfl) (by kernel_rfl) (fun _ _ _ h => h) (Or.inl ⟨by rfl, ?_⟩) (by assumption) ?_
            · intro W2 hSw; have y12 := obj_cell (hSw.obj HOR.out (not_no _)) 12; simp only [crdCs, List.getElem?_toArray, List.getElem?_cons_succ, List.getElem?_cons_zero] at y12; rw [HN.out] at y12; have k0 := hSw.cell g0 (not_no _); have k1 := hSw.cell g1 (not_no _); go_simp
            simp only [Act.put, List.getElem_toArray, List.getElem_cons_zero, List.getElem_cons_succ, List.setIfInBounds_toArray, List.set_cons_zero, List.set_cons_succ]
            refine wpAnyH_take (i := 7) (v := .bool false) rfl (by kernel_rfl) (by kernel_rfl) (by kernel_rfl) (fun _ _ _ h => h) (Or.inl ⟨by rfl, ?_⟩) (by assumption) ?_
            · intro W2 hSw; have y12 := obj_cell (hSw.obj HOR.out (not_no _)) 12; simp only [crdCs, List.getElem?_toArray, List.getElem?_cons_succ, List.getElem?_cons_zero] at y12; rw [HN.out] at y12; have k0 := hSw.cell g0 (not_no _); have k1 := hSw.cell g1 (not_no _); go_simp
            simp only [Act.put, List.getElem_toArray, List.getElem_cons_zero, List.getElem_cons_succ, List.setIfInBounds_toArray, List.set_cons_zero, List.set_cons_succ]
            refine wpAnyH_take (i := 8) (v := .int .i64 0) rfl (by kernel_rfl) (by kernel_rfl) (by kernel_rfl) (fun _ _ _ h => h) (Or.inl ⟨by rfl, ?_⟩) (by assumption) ?_
            · intro W2 hSw; have y12 := obj_cell (hSw.obj HOR.out (not_no _)) 12; simp only [crdCs, List.getElem?_toArray, List.getElem?_cons_succ, List.getElem?_cons_zero] at y12; rw [HN.out] at y12; have k0 := hSw.cell g0 (not_no _); have k1 := hSw.cell g1 (not_no _); go_simp
            simp only [Act.put, List.getElem_toArray, List.getElem_cons_zero, List.getElem_cons_succ, List.setIfInBounds_toArray, List.set_cons_zero, List.set_cons_succ]
            refine wpAnyH_take (i := 9) (v := .bool false) rfl (by kernel_rfl) (by kernel_rfl) (by kernel_rfl) (fun _ _ _ h => h) (Or.inl ⟨by rfl, ?_⟩) (by assumption) ?_
            · intro W2 hSw; have y12 := obj_cell (hSw.obj HOR.out (not_no _)) 12; simp only [crdCs, List.getElem?_toArray, List.getElem?_cons_succ, List.getElem?_cons_zero] at y12; rw [HN.out] at y12; have k0 := hSw.cell g0 (not_no _); have k1 := hSw.cell g1 (not_no _); go_simp
            simp only [Act.put, List.getElem_toArray, List.getElem_cons_zero, List.getElem_cons_succ, List.setIfInBounds_toArray, List.set_cons_zero, List.set_cons_succ]
            refine wpAnyH_take (i := 10) (v := .bool false) rfl (by kernel_rfl) (by kernel_rfl) (by kernel_rfl) (fun _ _ _ h => h) (Or.inl ⟨by rfl, ?_⟩) (by assumption) ?_
            · intro W2 hSw; have y12 := obj_cell (hSw.obj HOR.out (not_no _)) 12; simp only [crdCs, List.getElem?_toArray, List.getElem?_cons_succ, List.getElem?_cons_zero] at y12; rw [HN.out] at y12; have k0 := hSw.cell g0 (not_no _); have k1 := hSw.cell g1 (not_no _); go_simp
            simp only [Act.put, List.getElem_toArray, List.getElem_cons_zero, List.getElem_cons_succ, List.setIfInBounds_toArray, List.set_cons_zero, List.set_cons_succ]
            refine wpAnyH_take (i := 11) (v := undef) rfl (by kernel_rfl) (by kernel_rfl) (by kernel_rfl) (fun _ _ _ h => h) (Or.inr ⟨by rfl, rfl⟩) (by assumption) ?_
            simp only [Act.put, List.getElem_toArray, List.getElem_cons_zero, List.getElem_cons_succ, List.setIfInBounds_toArray, List.set_cons_zero, List.set_cons_succ]
            refine wpAnyH_take (i := 12) (v := undef) rfl (by kernel_rfl) (by kernel_rfl) (by kernel_rfl) (fun _ _ _ h => h) (Or.inr ⟨by rfl, rfl⟩) (by assumption) ?_
            simp only [Act.put, List.getElem_toArray, List.getElem_cons_zero, List.getElem_cons_succ, List.setIfInBounds_toArray, List.set_cons_zero, List.set_cons_succ]
            refine wpAnyH_take (i := 13) (v := undef) rfl (by kernel_rfl) (by kernel_rfl) (by kernel_rfl) (fun _ _ _ h => h) (Or.inr ⟨by rfl, rfl⟩) (by assumption) ?_
            simp only [Act.put, List.getElem_toArray, List.getElem_cons_zero, List.getElem_cons_succ, List.setIfInBounds_toArray, List.set_cons_zero, List.set_cons_succ]
            refine wpAnyH_take (i := 14) (v := undef) rfl (by kernel_rfl) (by kernel_rfl) (by kernel_rfl) (fun _ _ _ h => h) (Or.inr ⟨by rfl, rfl⟩) (by assumption) ?_
            simp only [Act.put, List.getElem_toArray, List.getElem_cons_zero, List.getElem_cons_succ, List.setIfInBounds_toArray, List.set_cons_zero, List.set_cons_succ]
            refine wpAnyH_take (i := 15) (v := undef) rfl (by kernel_rfl) (by kernel_rfl) (by kernel_rfl) (fun _ _ _ h => h) (Or.inr ⟨by rfl, rfl⟩) (by assumption) ?_
            simp only [Act.put, List.getElem_toArray, List.getElem_cons_zero, List.getElem_cons_succ, List.setIfInBounds_toArray, List.set_cons_zero, List.set_cons_succ]
            refine wpAnyH_take (i := 16) (v := undef) rfl (by kernel_rfl) (by kernel_rfl) (by kernel_rfl) (fun _ _ _ h => h) (Or.inr ⟨by rfl, rfl⟩) (by assumption) ?_
            simp only [Act.put, List.getElem_toArray, List.getElem_cons_zero, List.getElem_cons_succ, List.setIfInBounds_toArray, List.set_cons_zero, List.set_cons_succ]
            refine wpAnyH_take (i := 17) (v := undef) rfl (by kernel_rfl) (by kernel_rfl) (by kernel_rfl) (fun _ _ _ h => h) (Or.inr ⟨by rfl, rfl⟩) (by assumption) ?_
            simp only [Act.put, List.getElem_toArray, List.getElem_cons_zero, List.getElem_cons_succ, List.setIfInBounds_toArray, List.set_cons_zero, List.set_cons_succ]
            refine wpAnyH_take (i := 18) (v := undef) rfl (by kernel_rfl) (by kernel_rfl) (by kernel_rfl) (fun _ _ _ h => h) (Or.inr ⟨by rfl, rfl⟩) (by assumption) ?_
            simp only [Act.put, List.getElem_toArray, List.getElem_cons_zero, List.getElem_cons_succ, List.setIfInBounds_toArray, List.set_cons_zero, List.set_cons_succ]
            refine wpAnyH_take (i := 19) (v := undef) rfl (by kernel_rfl) (by kernel_rfl) (by kernel_rfl) (fun _ _ _ h => h) (Or.inr ⟨by rfl, rfl⟩) (by assumption) ?_
            simp only [Act.put, List.getElem_toArray, List.getElem_cons_zero, List.getElem_cons_succ, List.setIfInBounds_toArray, List.set_cons_zero, List.set_cons_succ]
            refine wpAnyH_take (i := 20) (v := undef) rfl (by kernel_rfl) (by kernel_rfl) (by kernel_rfl) (fun _ _ _ h => h) (Or.inr ⟨by rfl, rfl⟩) (by assumption) ?_
            simp only [Act.put, List.getElem_toArray, List.getElem_cons_zero, List.getElem_cons_succ, List.setIfInBounds_toArray, List.set_cons_zero, List.set_cons_succ]
            refine wpAnyH_take (i := 21) (v := undef) rfl (by kernel_rfl) (by kernel_rfl) (by kernel_rfl) (fun _ _ _ h => h) (Or.inr ⟨by rfl, rfl⟩) (by assumption) ?_
            simp only [Act.put, List.getElem_toArray, List.getElem_cons_zero, List.getElem_cons_succ, List.setIfInBounds_toArray, List.set_cons_zero, List.set_cons_succ]
            refine wpAnyH_take (i := 22) (v := .bool false) rfl (by kernel_rfl) (by kernel_rfl) (by kernel_rfl) (fun _ _ _ h => h) (Or.inl ⟨by rfl, ?_⟩) (by assumption) ?_
            · intro W2 hSw; have y12 := obj_cell (hSw.obj HOR.out (not_no _)) 12; simp only [crdCs, List.getElem?_toArray, List.getElem?_cons_succ, List.getElem?_cons_zero] at y12; rw [HN.out] at y12; have k0 := hSw.cell g0 (not_no _); have k1 := hSw.cell g1 (not_no _); go_simp
            simp only [Act.put, List.getElem_toArray, List.getElem_cons_zero, List.getElem_cons_succ, List.setIfInBounds_toArray, List.set_cons_zero, List.set_cons_succ]
            refine wpAnyH_take (i := 23) (v := .bool false) rfl (by kernel_rfl) (by kernel_rfl) (by kernel_rfl) (fun _ _ _ h => h) (Or.inl ⟨by rfl, ?_⟩) (by assumption) ?_
            · intro W2 hSw; have y12 := obj_cell (hSw.obj HOR.out (not_no _)) 12; simp only [crdCs, List.getElem?_toArray, List.getElem?_cons_succ, List.getElem?_cons_zero] at y12; rw [HN.out] at y12; have k0 := hSw.cell g0 (not_no _); have k1 := hSw.cell g1 (not_no _); go_simp
            simp only [Act.put, List.getElem_toArray, List.getElem_cons_zero, List.getElem_cons_succ, List.setIfInBounds_toArray, List.set_cons_zero, List.set_cons_succ]
            refine wpAnyH_done (by kernel_rfl) ?_ _
            go_wp2_with fail
            have hI := HI.out
            exact ⟨⟨1, by go_num, by rw [HN.out]; omega, HUP.out, HKR.out.and HK5.out⟩, by simp [intOf]; rw [HN.out]; omega⟩
          · have hil : 1 < c.trgs.length := by rw [hn]; exact hlt
            obtain ⟨t, ht⟩ : ∃ t, c.trgs[1]? = some t := ⟨_, List.getElem?_eq_getElem hil⟩
            obtain ⟨b, off, c1, ev2, hs, hcap, g0, g1, hE⟩ := (HTR.out _ (HK4.out.and hk)).at ht
            obtain ⟨ade2, cape2, rfl⟩ := rd_slice hE
            rw [hn] at hs
            cases hs
            have g0 : wr.cell? ⟨b, off + 2, none⟩ = some (.int .i64 t.when) := by simpa using g0
            have g1 : wr.cell? ⟨b, off + 2 + 1, none⟩ = some (.slice ade2 t.effs.length cape2) := by simpa using g1
            obtain ⟨t0, ht0⟩ : ∃ t, c.trgs[0]? = some t := ⟨_, List.getElem?_eq_getElem (by omega)⟩
            obtain ⟨b', off', c1', ev2', hs', _, f0, _, _⟩ := (HTR.out _ (HK4.out.and hk)).at ht0
            rw [hn] at hs'
            cases hs'
            have f0 : wr.cell? ⟨b, off, none⟩ = some (.int .i64 t0.when) := by simpa using f0
            have HTT := Lib.hid (fun W (hk : Kept No wr W) => HTG.out t (List.mem_of_getElem? ht) ade2 cape2 W (hE.no hk))
            obtain ⟨tg, htg⟩ : ∃ q, trgOk t = q := ⟨_, rfl⟩
            rw [htg] at HTT
            have d9 : decide (1 < n) = true := decide_eq_true hlt
            have hne : ¬ n = 0 := by omega
            have hin : (1 : Int) < (n : Int) := by omega
            have HTD := Lib.hid (And.intro ht htg)
            have HI := Lib.hid hlt
            have HT0 := Lib.hid ht0
            clear hk htr hlt hobr hil ht hE hcap htg ht0 hn
            go_upto_region 13 with fail
            cases tg
            · obtain rfl : cv = false := by rw [HR.out]; exact trgsTo_up (i := 2) (by rw [trgsTo, HTD.out.1]; simp [HTD.out.2]) _ (by rw [HN.out]; have := HI.out; omega)
              refine wp_region_held_drew (S := (fun W2 => Kept No wr W2)) (by kernel_rfl) (Kept.refl No wr).drew (fun hHeld => ?_)
              refine wpAnyH_take (i := 0) (v := .pointer (some ⟨w.heap.size, 12, none⟩)) rfl (by kernel_rfl) (by kernel_rfl) (by kernel_rfl) (fun _ _ _ h => h) (Or.inl ⟨by rfl, ?_⟩) (by assumption) ?_
              · intro W2 hSw; have y12 := obj_cell (hSw.obj HOR.out (not_no _)) 12; simp only [crdCs, List.getElem?_toArray, List.getElem?_cons_succ, List.getElem?_cons_zero] at y12; rw [HN.out] at y12; have k0 := hSw.cell g0 (not_no _); have k1 := hSw.cell g1 (not_no _); have k2 := hSw.cell f0 (not_no _); go_simp
              simp only [Act.put, List.getElem_toArray, List.getElem_cons_zero, List.getElem_cons_succ, List.setIfInBounds_toArray, List.set_cons_zero, List.set_cons_succ]
              refine wpAnyH_take (i := 1) (v := .slice (some ⟨b, off, none⟩) n capt) rfl (by kernel_rfl) (by kernel_rfl) (by kernel_rfl) (fun _ _ _ h => h) (Or.inl ⟨by rfl, ?_⟩) (by assumption) ?_
              · intro W2 hSw; have y12 := obj_cell (hSw.obj HOR.out (not_no _)) 12; simp only [crdCs, List.getElem?_toArray, List.getElem?_cons_succ, List.getElem?_cons_zero] at y12; rw [HN.out] at y12; have k0 := hSw.cell g0 (not_no _); have k1 := hSw.cell g1 (not_no _); have k2 := hSw.cell f0 (not_no _); go_simp
              simp only [Act.put, List.getElem_toArray, List.getElem_cons_zero, List.getElem_cons_succ, List.setIfInBounds_toArray, List.set_cons_zero, List.set_cons_succ]
              refine wpAnyH_take (i := 2) (v := .int .i64 1) rfl (by kernel_rfl) (by kernel_rfl) (by kernel_rfl) (fun _ _ _ h => h) (Or.inl ⟨by rfl, ?_⟩) (by assumption) ?_
              · intro W2 hSw; have y12 := obj_cell (hSw.obj HOR.out (not_no _)) 12; simp only [crdCs, List.getElem?_toArray, List.getElem?_cons_succ, List.getElem?_cons_zero] at y12; rw [HN.out] at y12; have k0 := hSw.cell g0 (not_no _); have k1 := hSw.cell g1 (not_no _); have k2 := hSw.cell f0 (not_no _); go_simp
              simp only [Act.put, List.getElem_toArray, List.getElem_cons_zero, List.getElem_cons_succ, List.setIfInBounds_toArray, List.set_cons_zero, List.set_cons_succ]
              refine wpAnyH_take (i := 3) (v := .pointer (some ⟨b, off + 2, none⟩)) rfl (by kernel_rfl) (by kernel_rfl) (by kernel_rfl) (fun _ _ _ h => h) (Or.inl ⟨by rfl, ?_⟩) (by assumption) ?_
              · intro W2 hSw; have y12 := obj_cell (hSw.obj HOR.out (not_no _)) 12; simp only [crdCs, List.getElem?_toArray, List.getElem?_cons_succ, List.getElem?_cons_zero] at y12; rw [HN.out] at y12; have k0 := hSw.cell g0 (not_no _); have k1 := hSw.cell g1 (not_no _); have k2 := hSw.cell f0 (not_no _); go_simp
              simp only [Act.put, List.getElem_toArray, List.getElem_cons_zero, List.getElem_cons_succ, List.setIfInBounds_toArray, List.set_cons_zero, List.set_cons_succ]
              refine wpAnyH_take (i := 4) (v := .agg #[.int .i64 t.when, .slice ade2 t.effs.length cape2]) rfl (by kernel_rfl) (by kernel_rfl) (by kernel_rfl) (fun _ _ _ h => h) (Or.inl ⟨by rfl, ?_⟩) (by assumption) ?_
              · intro W2 hSw; have y12 := obj_cell (hSw.obj HOR.out (not_no _)) 12; simp only [crdCs, List.getElem?_toArray, List.getElem?_cons_succ, List.getElem?_cons_zero] at y12; rw [HN.out] at y12; have k0 := hSw.cell g0 (not_no _); have k1 := hSw.cell g1 (not_no _); have k2 := hSw.cell f0 (not_no _); go_simp
              simp only [Act.put, List.getElem_toArray, List.getElem_cons_zero, List.getElem_cons_succ, List.setIfInBounds_toArray, List.set_cons_zero, List.set_cons_succ]
              refine wpAnyH_ready (rs := [5]) (by kernel_rfl) (by simp) ?_
              refine AllReadyH.cons rfl (fun K hK => ?_) AllReadyH.nil
              go_simp
              refine (HTT.out _ (Kept.refl No wr).drew).mono ?_
              rintro e5 w5 ⟨rfl, hk5⟩
              have HK5 := Lib.hid ((Kept.refl No wr).drew.and hk5)
              clear hk5
              simp only []
              refine hK.out _ _ HK5.out (fun _ => ?_)
              clear hK K
              try simp only [Act.put, List.getElem_toArray, List.getElem_cons_zero, List.getElem_cons_succ, List.setIfInBounds_toArray, List.set_cons_zero, List.set_cons_succ]
              refine wpAnyH_take (i := 6) (v := .bool true) rfl (by kernel_rfl) (by kernel_rfl) (by kernel_rfl) (fun _ _ _ h => h) (Or.inl ⟨by rfl, ?_⟩) (by assumption) ?_
              · intro W2 hSw; have y12 := obj_cell (hSw.obj HOR.out (not_no _)) 12; simp only [crdCs, List.getElem?_toArray, List.getElem?_cons_succ, List.getElem?_cons_zero] at y12; rw [HN.out] at y12; have k0 := hSw.cell g0 (not_no _); have k1 := hSw.cell g1 (not_no _); have k2 := hSw.cell f0 (not_no _); go_simp
              simp only [Act.put, List.getElem_toArray, List.getElem_cons_zero, List.getElem_cons_succ, List.setIfInBounds_toArray, List.set_cons_zero, List.set_cons_succ]
              refine wpAnyH_take (i := 7) (v := .bool true) rfl (by kernel_rfl) (by kernel_rfl) (by kernel_rfl) (fun _ _ _ h => h) (Or.inl ⟨by rfl, ?_⟩) (by assumption) ?_
              · intro W2 hSw; have y12 := obj_cell (hSw.obj HOR.out (not_no _)) 12; simp only [crdCs, List.getElem?_toArray, List.getElem?_cons_succ, List.getElem?_cons_zero] at y12; rw [HN.out] at y12; have k0 := hSw.cell g0 (not_no _); have k1 := hSw.cell g1 (not_no _); have k2 := hSw.cell f0 (not_no _); go_simp
              simp only [Act.put, List.getElem_toArray, List.getElem_cons_zero, List.getElem_cons_succ, List.setIfInBounds_toArray, List.set_cons_zero, List.set_cons_succ]
              refine wpAnyH_take (i := 8) (v := undef) rfl (by kernel_rfl) (by kernel_rfl) (by kernel_rfl) (fun _ _ _ h => h) (Or.inr ⟨by rfl, rfl⟩) (by assumption) ?_
              simp only [Act.put, List.getElem_toArray, List.getElem_cons_zero, List.getElem_cons_succ, List.setIfInBounds_toArray, List.set_cons_zero, List.set_cons_succ]
              refine wpAnyH_take (i := 9) (v := undef) rfl (by kernel_rfl) (by kernel_rfl) (by kernel_rfl) (fun _ _ _ h => h) (Or.inr ⟨by rfl, rfl⟩) (by assumption) ?_
              simp only [Act.put, List.getElem_toArray, List.getElem_cons_zero, List.getElem_cons_succ, List.setIfInBounds_toArray, List.set_cons_zero, List.set_cons_succ]
              refine wpAnyH_take (i := 10) (v := undef) rfl (by kernel_rfl) (by kernel_rfl) (by kernel_rfl) (fun _ _ _ h => h) (Or.inr ⟨by rfl, rfl⟩) (by assumption) ?_
              simp only [Act.put, List.getElem_toArray, List.getElem_cons_zero, List.getElem_cons_succ, List.setIfInBounds_toArray, List.set_cons_zero, List.set_cons_succ]
              refine wpAnyH_take (i := 11) (v := undef) rfl (by kernel_rfl) (by kernel_rfl) (by kernel_rfl) (fun _ _ _ h => h) (Or.inr ⟨by rfl, rfl⟩) (by assumption) ?_
              simp only [Act.put, List.getElem_toArray, List.getElem_cons_zero, List.getElem_cons_succ, List.setIfInBounds_toArray, List.set_cons_zero, List.set_cons_succ]
              refine wpAnyH_take (i := 12) (v := undef) rfl (by kernel_rfl) (by kernel_rfl) (by kernel_rfl) (fun _ _ _ h => h) (Or.inr ⟨by rfl, rfl⟩) (by assumption) ?_
              simp only [Act.put, List.getElem_toArray, List.getElem_cons_zero, List.getElem_cons_succ, List.setIfInBounds_toArray, List.set_cons_zero, List.set_cons_succ]
              refine wpAnyH_take (i := 13) (v := undef) rfl (by kernel_rfl) (by kernel_rfl) (by kernel_rfl) (fun _ _ _ h => h) (Or.inr ⟨by rfl, rfl⟩) (by assumption) ?_
              simp only [Act.put, List.getElem_toArray, List.getElem_cons_zero, List.getElem_cons_succ, List.setIfInBounds_toArray, List.set_cons_zero, List.set_cons_succ]
              refine wpAnyH_take (i := 14) (v := undef) rfl (by kernel_rfl) (by kernel_rfl) (by kernel_rfl) (fun _ _ _ h => h) (Or.inr ⟨by rfl, rfl⟩) (by assumption) ?_
              simp only [Act.put, List.getElem_toArray, List.getElem_cons_zero, List.getElem_cons_succ, List.setIfInBounds_toArray, List.set_cons_zero, List.set_cons_succ]
              refine wpAnyH_take (i := 15) (v := undef) rfl (by kernel_rfl) (by kernel_rfl) (by kernel_rfl) (fun _ _ _ h => h) (Or.inr ⟨by rfl, rfl⟩) (by assumption) ?_
              simp only [Act.put, List.getElem_toArray, List.getElem_cons_zero, List.getElem_cons_succ, List.setIfInBounds_toArray, List.set_cons_zero, List.set_cons_succ]
              refine wpAnyH_take (i := 16) (v := undef) rfl (by kernel_rfl) (by kernel_rfl) (by kernel_rfl) (fun _ _ _ h => h) (Or.inr ⟨by rfl, rfl⟩) (by assumption) ?_
              simp only [Act.put, List.getElem_toArray, List.getElem_cons_zero, List.getElem_cons_succ, List.setIfInBounds_toArray, List.set_cons_zero, List.set_cons_succ]
              refine wpAnyH_take (i := 17) (v := undef) rfl (by kernel_rfl) (by kernel_rfl) (by kernel_rfl) (fun _ _ _ h => h) (Or.inr ⟨by rfl, rfl⟩) (by assumption) ?_
              simp only [Act.put, List.getElem_toArray, List.getElem_cons_zero, List.getElem_cons_succ, List.setIfInBounds_toArray, List.set_cons_zero, List.set_cons_succ]
              refine wpAnyH_take (i := 18) (v := undef) rfl (by kernel_rfl) (by kernel_rfl) (by kernel_rfl) (fun _ _ _ h => h) (Or.inr ⟨by rfl, rfl⟩) (by assumption) ?_
              simp only [Act.put, List.getElem_toArray, List.getElem_cons_zero, List.getElem_cons_succ, List.setIfInBounds_toArray, List.set_cons_zero, List.set_cons_succ]
              refine wpAnyH_take (i := 19) (v := undef) rfl (by kernel_rfl) (by kernel_rfl) (by kernel_rfl) (fun _ _ _ h => h) (Or.inr ⟨by rfl, rfl⟩) (by assumption) ?_
              simp only [Act.put, List.getElem_toArray, List.getElem_cons_zero, List.getElem_cons_succ, List.setIfInBounds_toArray, List.set_cons_zero, List.set_cons_succ]
              refine wpAnyH_take (i := 20) (v := undef) rfl (by kernel_rfl) (by kernel_rfl) (by kernel_rfl) (fun _ _ _ h => h) (Or.inr ⟨by rfl, rfl⟩) (by assumption) ?_
              simp only [Act.put, List.getElem_toArray, List.getElem_cons_zero, List.getElem_cons_succ, List.setIfInBounds_toArray, List.set_cons_zero, List.set_cons_succ]
              refine wpAnyH_take (i := 21) (v := undef) rfl (by kernel_rfl) (by kernel_rfl) (by kernel_rfl) (fun _ _ _ h => h) (Or.inr ⟨by rfl, rfl⟩) (by assumption) ?_
              simp only [Act.put, List.getElem_toArray, List.getElem_cons_zero, List.getElem_cons_succ, List.setIfInBounds_toArray, List.set_cons_zero, List.set_cons_succ]
              refine wpAnyH_take (i := 22) (v := undef) rfl (by kernel_rfl) (by kernel_rfl) (by kernel_rfl) (fun _ _ _ h => h) (Or.inr ⟨by rfl, rfl⟩) (by assumption) ?_
              simp only [Act.put, List.getElem_toArray, List.getElem_cons_zero, List.getElem_cons_succ, List.setIfInBounds_toArray, List.set_cons_zero, List.set_cons_succ]
              refine wpAnyH_take (i := 23) (v := .bool true) rfl (by kernel_rfl) (by kernel_rfl) (by kernel_rfl) (fun _ _ _ h => h) (Or.inl ⟨by rfl, ?_⟩) (by assumption) ?_
              · intro W2 hSw; have y12 := obj_cell (hSw.obj HOR.out (not_no _)) 12; simp only [crdCs, List.getElem?_toArray, List.getElem?_cons_succ, List.getElem?_cons_zero] at y12; rw [HN.out] at y12; have k0 := hSw.cell g0 (not_no _); have k1 := hSw.cell g1 (not_no _); have k2 := hSw.cell f0 (not_no _); go_simp
              simp only [Act.put, List.getElem_toArray, List.getElem_cons_zero, List.getElem_cons_succ, List.setIfInBounds_toArray, List.set_cons_zero, List.set_cons_succ]
              refine wpAnyH_done (by kernel_rfl) ?_ _
              go_wp2_with fail
              go_ret
              exact ⟨rfl, (HK4.out.and HKR.out).and HK5.out⟩
            have htk : c.trgs.take 1 = [t0] := by
              have := HT0.out
              match hh : c.trgs, this with
              | x :: r, this => obtain rfl : x = t0 := by simpa using this
                                rfl
            by_cases hw : t0.when = t.when
            · have ew : (t0.when == t.when) = true := by simpa using hw
              obtain rfl : cv = false := by rw [HR.out]; exact trgsTo_up (i := 2) (by rw [trgsTo, HTD.out.1]; rw [htk]; simp [ew]) _ (by rw [HN.out]; have := HI.out; omega)
              refine wp_region_held_drew (S := (fun W2 => Kept No wr W2)) (by kernel_rfl) (Kept.refl No wr).drew (fun hHeld => ?_)
              refine wpAnyH_take (i := 0) (v := .pointer (some ⟨w.heap.size, 12, none⟩)) rfl (by kernel_rfl) (by kernel_rfl) (by kernel_rfl) (fun _ _ _ h => h) (Or.inl ⟨by rfl, ?_⟩) (by assumption) ?_
              · intro W2 hSw; have y12 := obj_cell (hSw.obj HOR.out (not_no _)) 12; simp only [crdCs, List.getElem?_toArray, List.getElem?_cons_succ, List.getElem?_cons_zero] at y12; rw [HN.out] at y12; have k0 := hSw.cell g0 (not_no _); have k1 := hSw.cell g1 (not_no _); have k2 := hSw.cell f0 (not_no _); go_simp
              simp only [Act.put, List.getElem_toArray, List.getElem_cons_zero, List.getElem_cons_succ, List.setIfInBounds_toArray, List.set_cons_zero, List.set_cons_succ]
              refine wpAnyH_take (i := 1) (v := .slice (some ⟨b, off, none⟩) n capt) rfl (by kernel_rfl) (by kernel_rfl) (by kernel_rfl) (fun _ _ _ h => h) (Or.inl ⟨by rfl, ?_⟩) (by assumption) ?_
              · intro W2 hSw; have y12 := obj_cell (hSw.obj HOR.out (not_no _)) 12; simp only [crdCs, List.getElem?_toArray, List.getElem?_cons_succ, List.getElem?_cons_zero] at y12; rw [HN.out] at y12; have k0 := hSw.cell g0 (not_no _); have k1 := hSw.cell g1 (not_no _); have k2 := hSw.cell f0 (not_no _); go_simp
              simp only [Act.put, List.getElem_toArray, List.getElem_cons_zero, List.getElem_cons_succ, List.setIfInBounds_toArray, List.set_cons_zero, List.set_cons_succ]
              refine wpAnyH_take (i := 2) (v := .int .i64 1) rfl (by kernel_rfl) (by kernel_rfl) (by kernel_rfl) (fun _ _ _ h => h) (Or.inl ⟨by rfl, ?_⟩) (by assumption) ?_
              · intro W2 hSw; have y12 := obj_cell (hSw.obj HOR.out (not_no _)) 12; simp only [crdCs, List.getElem?_toArray, List.getElem?_cons_succ, List.getElem?_cons_zero] at y12; rw [HN.out] at y12; have k0 := hSw.cell g0 (not_no _); have k1 := hSw.cell g1 (not_no _); have k2 := hSw.cell f0 (not_no _); go_simp
              simp only [Act.put, List.getElem_toArray, List.getElem_cons_zero, List.getElem_cons_succ, List.setIfInBounds_toArray, List.set_cons_zero, List.set_cons_succ]
              refine wpAnyH_take (i := 3) (v := .pointer (some ⟨b, off + 2, none⟩)) rfl (by kernel_rfl) (by kernel_rfl) (by kernel_rfl) (fun _ _ _ h => h) (Or.inl ⟨by rfl, ?_⟩) (by assumption) ?_
              · intro W2 hSw; have y12 := obj_cell (hSw.obj HOR.out (not_no _)) 12; simp only [crdCs, List.getElem?_toArray, List.getElem?_cons_succ, List.getElem?_cons_zero] at y12; rw [HN.out] at y12; have k0 := hSw.cell g0 (not_no _); have k1 := hSw.cell g1 (not_no _); have k2 := hSw.cell f0 (not_no _); go_simp
              simp only [Act.put, List.getElem_toArray, List.getElem_cons_zero, List.getElem_cons_succ, List.setIfInBounds_toArray, List.set_cons_zero, List.set_cons_succ]
              refine wpAnyH_take (i := 4) (v := .agg #[.int .i64 t.when, .slice ade2 t.effs.length cape2]) rfl (by kernel_rfl) (by kernel_rfl) (by kernel_rfl) (fun _ _ _ h => h) (Or.inl ⟨by rfl, ?_⟩) (by assumption) ?_
              · intro W2 hSw; have y12 := obj_cell (hSw.obj HOR.out (not_no _)) 12; simp only [crdCs, List.getElem?_toArray, List.getElem?_cons_succ, List.getElem?_cons_zero] at y12; rw [HN.out] at y12; have k0 := hSw.cell g0 (not_no _); have k1 := hSw.cell g1 (not_no _); have k2 := hSw.cell f0 (not_no _); go_simp
              simp only [Act.put, List.getElem_toArray, List.getElem_cons_zero, List.getElem_cons_succ, List.setIfInBounds_toArray, List.set_cons_zero, List.set_cons_succ]
              refine wpAnyH_ready (rs := [5]) (by kernel_rfl) (by simp) ?_
              refine AllReadyH.cons rfl (fun K hK => ?_) AllReadyH.nil
              go_simp
              refine (HTT.out _ (Kept.refl No wr).drew).mono ?_
              rintro e5 w5 ⟨rfl, hk5⟩
              have HK5 := Lib.hid ((Kept.refl No wr).drew.and hk5)
              clear hk5
              simp only []
              refine hK.out _ _ HK5.out (fun _ => ?_)
              clear hK K
              try simp only [Act.put, List.getElem_toArray, List.getElem_cons_zero, List.getElem_cons_succ, List.setIfInBounds_toArray, List.set_cons_zero, List.set_cons_succ]
              refine wpAnyH_take (i := 6) (v := .bool false) rfl (by kernel_rfl) (by kernel_rfl) (by kernel_rfl) (fun _ _ _ h => h) (Or.inl ⟨by rfl, ?_⟩) (by assumption) ?_
              · intro W2 hSw; have y12 := obj_cell (hSw.obj HOR.out (not_no _)) 12; simp only [crdCs, List.getElem?_toArray, List.getElem?_cons_succ, List.getElem?_cons_zero] at y12; rw [HN.out] at y12; have k0 := hSw.cell g0 (not_no _); have k1 := hSw.cell g1 (not_no _); have k2 := hSw.cell f0 (not_no _); go_simp
              simp only [Act.put, List.getElem_toArray, List.getElem_cons_zero, List.getElem_cons_succ, List.setIfInBounds_toArray, List.set_cons_zero, List.set_cons_succ]
              refine wpAnyH_take (i := 7) (v := .bool false) rfl (by kernel_rfl) (by kernel_rfl) (by kernel_rfl) (fun _ _ _ h => h) (Or.inl ⟨by rfl, ?_⟩) (by assumption) ?_
              · intro W2 hSw; have y12 := obj_cell (hSw.obj HOR.out (not_no _)) 12; simp only [crdCs, List.getElem?_toArray, List.getElem?_cons_succ, List.getElem?_cons_zero] at y12; rw [HN.out] at y12; have k0 := hSw.cell g0 (not_no _); have k1 := hSw.cell g1 (not_no _); have k2 := hSw.cell f0 (not_no _); go_simp
              simp only [Act.put, List.getElem_toArray, List.getElem_cons_zero, List.getElem_cons_succ, List.setIfInBounds_toArray, List.set_cons_zero, List.set_cons_succ]
              refine wpAnyH_take (i := 8) (v := .int .i64 1) rfl (by kernel_rfl) (by kernel_rfl) (by kernel_rfl) (fun _ _ _ h => h) (Or.inl ⟨by rfl, ?_⟩) (by assumption) ?_
              · intro W2 hSw; have y12 := obj_cell (hSw.obj HOR.out (not_no _)) 12; simp only [crdCs, List.getElem?_toArray, List.getElem?_cons_succ, List.getElem?_cons_zero] at y12; rw [HN.out] at y12; have k0 := hSw.cell g0 (not_no _); have k1 := hSw.cell g1 (not_no _); have k2 := hSw.cell f0 (not_no _); go_simp
              simp only [Act.put, List.getElem_toArray, List.getElem_cons_zero, List.getElem_cons_succ, List.setIfInBounds_toArray, List.set_cons_zero, List.set_cons_succ]
              refine wpAnyH_take (i := 9) (v := .bool true) rfl (by kernel_rfl) (by kernel_rfl) (by kernel_rfl) (fun _ _ _ h => h) (Or.inl ⟨by rfl, ?_⟩) (by assumption) ?_
              · intro W2 hSw; have y12 := obj_cell (hSw.obj HOR.out (not_no _)) 12; simp only [crdCs, List.getElem?_toArray, List.getElem?_cons_succ, List.getElem?_cons_zero] at y12; rw [HN.out] at y12; have k0 := hSw.cell g0 (not_no _); have k1 := hSw.cell g1 (not_no _); have k2 := hSw.cell f0 (not_no _); go_simp
              simp only [Act.put, List.getElem_toArray, List.getElem_cons_zero, List.getElem_cons_succ, List.setIfInBounds_toArray, List.set_cons_zero, List.set_cons_succ]
              refine wpAnyH_take (i := 10) (v := .bool true) rfl (by kernel_rfl) (by kernel_rfl) (by kernel_rfl) (fun _ _ _ h => h) (Or.inl ⟨by rfl, ?_⟩) (by assumption) ?_
              · intro W2 hSw; have y12 := obj_cell (hSw.obj HOR.out (not_no _)) 12; simp only [crdCs, List.getElem?_toArray, List.getElem?_cons_succ, List.getElem?_cons_zero] at y12; rw [HN.out] at y12; have k0 := hSw.cell g0 (not_no _); have k1 := hSw.cell g1 (not_no _); have k2 := hSw.cell f0 (not_no _); go_simp
              simp only [Act.put, List.getElem_toArray, List.getElem_cons_zero, List.getElem_cons_succ, List.setIfInBounds_toArray, List.set_cons_zero, List.set_cons_succ]
              refine wpAnyH_take (i := 11) (v := .pointer (some ⟨w.heap.size, 12, none⟩)) rfl (by kernel_rfl) (by kernel_rfl) (by kernel_rfl) (fun _ _ _ h => h) (Or.inl ⟨by rfl, ?_⟩) (by assumption) ?_
              · intro W2 hSw; have y12 := obj_cell (hSw.obj HOR.out (not_no _)) 12; simp only [crdCs, List.getElem?_toArray, List.getElem?_cons_succ, List.getElem?_cons_zero] at y12; rw [HN.out] at y12; have k0 := hSw.cell g0 (not_no _); have k1 := hSw.cell g1 (not_no _); have k2 := hSw.cell f0 (not_no _); go_simp
              simp only [Act.put, List.getElem_toArray, List.getElem_cons_zero, List.getElem_cons_succ, List.setIfInBounds_toArray, List.set_cons_zero, List.set_cons_succ]
              refine wpAnyH_take (i := 12) (v := .slice (some ⟨b, off, none⟩) n capt) rfl (by kernel_rfl) (by kernel_rfl) (by kernel_rfl) (fun _ _ _ h => h) (Or.inl ⟨by rfl, ?_⟩) (by assumption) ?_
              · intro W2 hSw; have y12 := obj_cell (hSw.obj HOR.out (not_no _)) 12; simp only [crdCs, List.getElem?_toArray, List.getElem?_cons_succ, List.getElem?_cons_zero] at y12; rw [HN.out] at y12; have k0 := hSw.cell g0 (not_no _); have k1 := hSw.cell g1 (not_no _); have k2 := hSw.cell f0 (not_no _); go_simp
              simp only [Act.put, List.getElem_toArray, List.getElem_cons_zero, List.getElem_cons_succ, List.setIfInBounds_toArray, List.set_cons_zero, List.set_cons_succ]
              refine wpAnyH_take (i := 13) (v := .pointer (some ⟨b, off, none⟩)) rfl (by kernel_rfl) (by kernel_rfl) (by kernel_rfl) (fun _ _ _ h => h) (Or.inl ⟨by rfl, ?_⟩) (by assumption) ?_
              · intro W2 hSw; have y12 := obj_cell (hSw.obj HOR.out (not_no _)) 12; simp only [crdCs, List.getElem?_toArray, List.getElem?_cons_succ, List.getElem?_cons_zero] at y12; rw [HN.out] at y12; have k0 := hSw.cell g0 (not_no _); have k1 := hSw.cell g1 (not_no _); have k2 := hSw.cell f0 (not_no _); go_simp
              simp only [Act.put, List.getElem_toArray, List.getElem_cons_zero, List.getElem_cons_succ, List.setIfInBounds_toArray, List.set_cons_zero, List.set_cons_succ]
              refine wpAnyH_take (i := 14) (v := .pointer (some ⟨b, off, none⟩)) rfl (by kernel_rfl) (by kernel_rfl) (by kernel_rfl) (fun _ _ _ h => h) (Or.inl ⟨by rfl, ?_⟩) (by assumption) ?_
              · intro W2 hSw; have y12 := obj_cell (hSw.obj HOR.out (not_no _)) 12; simp only [crdCs, List.getElem?_toArray, List.getElem?_cons_succ, List.getElem?_cons_zero] at y12; rw [HN.out] at y12; have k0 := hSw.cell g0 (not_no _); have k1 := hSw.cell g1 (not_no _); have k2 := hSw.cell f0 (not_no _); go_simp
              simp only [Act.put, List.getElem_toArray, List.getElem_cons_zero, List.getElem_cons_succ, List.setIfInBounds_toArray, List.set_cons_zero, List.set_cons_succ]
              refine wpAnyH_take (i := 15) (v := .int .i64 t0.when) rfl (by kernel_rfl) (by kernel_rfl) (by kernel_rfl) (fun _ _ _ h => h) (Or.inl ⟨by rfl, ?_⟩) (by assumption) ?_
              · intro W2 hSw; have y12 := obj_cell (hSw.obj HOR.out (not_no _)) 12; simp only [crdCs, List.getElem?_toArray, List.getElem?_cons_succ, List.getElem?_cons_zero] at y12; rw [HN.out] at y12; have k0 := hSw.cell g0 (not_no _); have k1 := hSw.cell g1 (not_no _); have k2 := hSw.cell f0 (not_no _); go_simp
              simp only [Act.put, List.getElem_toArray, List.getElem_cons_zero, List.getElem_cons_succ, List.setIfInBounds_toArray, List.set_cons_zero, List.set_cons_succ]
              refine wpAnyH_take (i := 16) (v := .pointer (some ⟨w.heap.size, 12, none⟩)) rfl (by kernel_rfl) (by kernel_rfl) (by kernel_rfl) (fun _ _ _ h => h) (Or.inl ⟨by rfl, ?_⟩) (by assumption) ?_
              · intro W2 hSw; have y12 := obj_cell (hSw.obj HOR.out (not_no _)) 12; simp only [crdCs, List.getElem?_toArray, List.getElem?_cons_succ, List.getElem?_cons_zero] at y12; rw [HN.out] at y12; have k0 := hSw.cell g0 (not_no _); have k1 := hSw.cell g1 (not_no _); have k2 := hSw.cell f0 (not_no _); go_simp
              simp only [Act.put, List.getElem_toArray, List.getElem_cons_zero, List.getElem_cons_succ, List.setIfInBounds_toArray, List.set_cons_zero, List.set_cons_succ]
              refine wpAnyH_take (i := 17) (v := .slice (some ⟨b, off, none⟩) n capt) rfl (by kernel_rfl) (by kernel_rfl) (by kernel_rfl) (fun _ _ _ h => h) (Or.inl ⟨by rfl, ?_⟩) (by assumption) ?_
              · intro W2 hSw; have y12 := obj_cell (hSw.obj HOR.out (not_no _)) 12; simp only [crdCs, List.getElem?_toArray, List.getElem?_cons_succ, List.getElem?_cons_zero] at y12; rw [HN.out] at y12; have k0 := hSw.cell g0 (not_no _); have k1 := hSw.cell g1 (not_no _); have k2 := hSw.cell f0 (not_no _); go_simp
              simp only [Act.put, List.getElem_toArray, List.getElem_cons_zero, List.getElem_cons_succ, List.setIfInBounds_toArray, List.set_cons_zero, List.set_cons_succ]
              refine wpAnyH_take (i := 18) (v := .pointer (some ⟨b, off + 2, none⟩)) rfl (by kernel_rfl) (by kernel_rfl) (by kernel_rfl) (fun _ _ _ h => h) (Or.inl ⟨by rfl, ?_⟩) (by assumption) ?_
              · intro W2 hSw; have y12 := obj_cell (hSw.obj HOR.out (not_no _)) 12; simp only [crdCs, List.getElem?_toArray, List.getElem?_cons_succ, List.getElem?_cons_zero] at y12; rw [HN.out] at y12; have k0 := hSw.cell g0 (not_no _); have k1 := hSw.cell g1 (not_no _); have k2 := hSw.cell f0 (not_no _); go_simp
              simp only [Act.put, List.getElem_toArray, List.getElem_cons_zero, List.getElem_cons_succ, List.setIfInBounds_toArray, List.set_cons_zero, List.set_cons_succ]
              refine wpAnyH_take (i := 19) (v := .pointer (some ⟨b, off + 2, none⟩)) rfl (by kernel_rfl) (by kernel_rfl) (by kernel_rfl) (fun _ _ _ h => h) (Or.inl ⟨by rfl, ?_⟩) (by assumption) ?_
              · intro W2 hSw; have y12 := obj_cell (hSw.obj HOR.out (not_no _)) 12; simp only [crdCs, List.getElem?_toArray, List.getElem?_cons_succ, List.getElem?_cons_zero] at y12; rw [HN.out] at y12; have k0 := hSw.cell g0 (not_no _); have k1 := hSw.cell g1 (not_no _); have k2 := hSw.cell f0 (not_no _); go_simp
              simp only [Act.put, List.getElem_toArray, List.getElem_cons_zero, List.getElem_cons_succ, List.setIfInBounds_toArray, List.set_cons_zero, List.set_cons_succ]
              refine wpAnyH_take (i := 20) (v := .int .i64 t.when) rfl (by kernel_rfl) (by kernel_rfl) (by kernel_rfl) (fun _ _ _ h => h) (Or.inl ⟨by rfl, ?_⟩) (by assumption) ?_
              · intro W2 hSw; have y12 := obj_cell (hSw.obj HOR.out (not_no _)) 12; simp only [crdCs, List.getElem?_toArray, List.getElem?_cons_succ, List.getElem?_cons_zero] at y12; rw [HN.out] at y12; have k0 := hSw.cell g0 (not_no _); have k1 := hSw.cell g1 (not_no _); have k2 := hSw.cell f0 (not_no _); go_simp
              simp only [Act.put, List.getElem_toArray, List.getElem_cons_zero, List.getElem_cons_succ, List.setIfInBounds_toArray, List.set_cons_zero, List.set_cons_succ]
              refine wpAnyH_take (i := 21) (v := .bool true) rfl (by kernel_rfl) (by kernel_rfl) (by kernel_rfl) (fun _ _ _ h => h) (Or.inl ⟨by rfl, ?_⟩) (by assumption) ?_
              · intro W2 hSw; have y12 := obj_cell (hSw.obj HOR.out (not_no _)) 12; simp only [crdCs, List.getElem?_toArray, List.getElem?_cons_succ, List.getElem?_cons_zero] at y12; rw [HN.out] at y12; have k0 := hSw.cell g0 (not_no _); have k1 := hSw.cell g1 (not_no _); have k2 := hSw.cell f0 (not_no _); go_simp
              simp only [Act.put, List.getElem_toArray, List.getElem_cons_zero, List.getElem_cons_succ, List.setIfInBounds_toArray, List.set_cons_zero, List.set_cons_succ]
              refine wpAnyH_take (i := 22) (v := .bool true) rfl (by kernel_rfl) (by kernel_rfl) (by kernel_rfl) (fun _ _ _ h => h) (Or.inl ⟨by rfl, ?_⟩) (by assumption) ?_
              · intro W2 hSw; have y12 := obj_cell (hSw.obj HOR.out (not_no _)) 12; simp only [crdCs, List.getElem?_toArray, List.getElem?_cons_succ, List.getElem?_cons_zero] at y12; rw [HN.out] at y12; have k0 := hSw.cell g0 (not_no _); have k1 := hSw.cell g1 (not_no _); have k2 := hSw.cell f0 (not_no _); go_simp
              simp only [Act.put, List.getElem_toArray, List.getElem_cons_zero, List.getElem_cons_succ, List.setIfInBounds_toArray, List.set_cons_zero, List.set_cons_succ]
              refine wpAnyH_take (i := 23) (v := .bool true) rfl (by kernel_rfl) (by kernel_rfl) (by kernel_rfl) (fun _ _ _ h => h) (Or.inl ⟨by rfl, ?_⟩) (by assumption) ?_
              · intro W2 hSw; have y12 := obj_cell (hSw.obj HOR.out (not_no _)) 12; simp only [crdCs, List.getElem?_toArray, List.getElem?_cons_succ, List.getElem?_cons_zero] at y12; rw [HN.out] at y12; have k0 := hSw.cell g0 (not_no _); have k1 := hSw.cell g1 (not_no _); have k2 := hSw.cell f0 (not_no _); go_simp
              simp only [Act.put, List.getElem_toArray, List.getElem_cons_zero, List.getElem_cons_succ, List.setIfInBounds_toArray, List.set_cons_zero, List.set_cons_succ]
              refine wpAnyH_done (by kernel_rfl) ?_ _
              go_wp2_with fail
              go_ret
              exact ⟨rfl, (HK4.out.and HKR.out).and HK5.out⟩
            have ew : (t0.when == t.when) = false := by simpa using hw
            have HUP := Lib.hid (show trgsTo c.trgs 2 = true by rw [trgsTo, HTO.out, HTD.out.1]; simp only; rw [htk]; simp [HTD.out.2, ew])
            refine wp_region_held_drew (S := (fun W2 => Kept No wr W2)) (by kernel_rfl) (Kept.refl No wr).drew (fun hHeld => ?_)
            refine wpAnyH_take (i := 0) (v := .pointer (some ⟨w.heap.size, 12, none⟩)) rfl (by kernel_rfl) (by kernel_rfl) (by kernel_rfl) (fun _ _ _ h => h) (Or.inl ⟨by rfl, ?_⟩) (by assumption) ?_
            · intro W2 hSw; have y12 := obj_cell (hSw.obj HOR.out (not_no _)) 12; simp only [crdCs, List.getElem?_toArray, List.getElem?_cons_succ, List.getElem?_cons_zero] at y12; rw [HN.out] at y12; have k0 := hSw.cell g0 (not_no _); have k1 := hSw.cell g1 (not_no _); have k2 := hSw.cell f0 (not_no _); go_simp
            simp only [Act.put, List.getElem_toArray, List.getElem_cons_zero, List.getElem_cons_succ, List.setIfInBounds_toArray, List.set_cons_zero, List.set_cons_succ]
            refine wpAnyH_take (i := 1) (v := .slice (some ⟨b, off, none⟩) n capt) rfl (by kernel_rfl) (by kernel_rfl) (by kernel_rfl) (fun _ _ _ h => h) (Or.inl ⟨by rfl, ?_⟩) (by assumption) ?_
            · intro W2 hSw; have y12 := obj_cell (hSw.obj HOR.out (not_no _)) 12; simp only [crdCs, List.getElem?_toArray, List.getElem?_cons_succ, List.getElem?_cons_zero] at y12; rw [HN.out] at y12; have k0 := hSw.cell g0 (not_no _); have k1 := hSw.cell g1 (not_no _); have k2 := hSw.cell f0 (not_no _); go_simp
            simp only [Act.put, List.getElem_toArray, List.getElem_cons_zero, List.getElem_cons_succ, List.setIfInBounds_toArray, List.set_cons_zero, List.set_cons_succ]
            refine wpAnyH_take (i := 2) (v := .int .i64 1) rfl (by kernel_rfl) (by kernel_rfl) (by kernel_rfl) (fun _ _ _ h => h) (Or.inl ⟨by rfl, ?_⟩) (by assumption) ?_
            · intro W2 hSw; have y12 := obj_cell (hSw.obj HOR.out (not_no _)) 12; simp only [crdCs, List.getElem?_toArray, List.getElem?_cons_succ, List.getElem?_cons_zero] at y12; rw [HN.out] at y12; have k0 := hSw.cell g0 (not_no _); have k1 := hSw.cell g1 (not_no _); have k2 := hSw.cell f0 (not_no _); go_simp
            simp only [Act.put, List.getElem_toArray, List.getElem_cons_zero, List.getElem_cons_succ, List.setIfInBounds_toArray, List.set_cons_zero, List.set_cons_succ]
            refine wpAnyH_take (i := 3) (v := .pointer (some ⟨b, off + 2, none⟩)) rfl (by kernel_rfl) (by kernel_rfl) (by kernel_rfl) (fun _ _ _ h => h) (Or.inl ⟨by rfl, ?_⟩) (by assumption) ?_
            · intro W2 hSw; have y12 := obj_cell (hSw.obj HOR.out (not_no _)) 12; simp only [crdCs, List.getElem?_toArray, List.getElem?_cons_succ, List.getElem?_cons_zero] at y12; rw [HN.out] at y12; have k0 := hSw.cell g0 (not_no _); have k1 := hSw.cell g1 (not_no _); have k2 := hSw.cell f0 (not_no _); go_simp
            simp only [Act.put, List.getElem_toArray, List.getElem_cons_zero, List.getElem_cons_succ, List.setIfInBounds_toArray, List.set_cons_zero, List.set_cons_succ]
            refine wpAnyH_take (i := 4) (v := .agg #[.int .i64 t.when, .slice ade2 t.effs.length cape2]) rfl (by kernel_rfl) (by kernel_rfl) (by kernel_rfl) (fun _ _ _ h => h) (Or.inl ⟨by rfl, ?_⟩) (by assumption) ?_
            · intro W2 hSw; have y12 := obj_cell (hSw.obj HOR.out (not_no _)) 12; simp only [crdCs, List.getElem?_toArray, List.getElem?_cons_succ, List.getElem?_cons_zero] at y12; rw [HN.out] at y12; have k0 := hSw.cell g0 (not_no _); have k1 := hSw.cell g1 (not_no _); have k2 := hSw.cell f0 (not_no _); go_simp
            simp only [Act.put, List.getElem_toArray, List.getElem_cons_zero, List.getElem_cons_succ, List.setIfInBounds_toArray, List.set_cons_zero, List.set_cons_succ]
            refine wpAnyH_ready (rs := [5]) (by kernel_rfl) (by simp) ?_
            refine AllReadyH.cons rfl (fun K hK => ?_) AllReadyH.nil
            go_simp
            refine (HTT.out _ (Kept.refl No wr).drew).mono ?_
            rintro e5 w5 ⟨rfl, hk5⟩
            have HK5 := Lib.hid ((Kept.refl No wr).drew.and hk5)
            clear hk5
            simp only []
            refine hK.out _ _ HK5.out (fun _ => ?_)
            clear hK K
            try simp only [Act.put, List.getElem_toArray, List.getElem_cons_zero, List.getElem_cons_succ, List.setIfInBounds_toArray, List.set_cons_zero, List.set_cons_succ]
            refine wpAnyH_take (i := 6) (v := .bool false) rfl (by kernel_rfl) (by kernel_rfl) (by kernel_rfl) (fun _ _ _ h => h) (Or.inl ⟨by rfl, ?_⟩) (by assumption) ?_
            · intro W2 hSw; have y12 := obj_cell (hSw.obj HOR.out (not_no _)) 12; simp only [crdCs, List.getElem?_toArray, List.getElem?_cons_succ, List.getElem?_cons_zero] at y12; rw [HN.out] at y12; have k0 := hSw.cell g0 (not_no _); have k1 := hSw.cell g1 (not_no _); have k2 := hSw.cell f0 (not_no _); go_simp
            simp only [Act.put, List.getElem_toArray, List.getElem_cons_zero, List.getElem_cons_succ, List.setIfInBounds_toArray, List.set_cons_zero, List.set_cons_succ]
            refine wpAnyH_take (i := 7) (v := .bool false) rfl (by kernel_rfl) (by kernel_rfl) (by kernel_rfl) (fun _ _ _ h => h) (Or.inl ⟨by rfl, ?_⟩) (by assumption) ?_
            · intro W2 hSw; have y12 := obj_cell (hSw.obj HOR.out (not_no _)) 12; simp only [crdCs, List.getElem?_toArray, List.getElem?_cons_succ, List.getElem?_cons_zero] at y12; rw [HN.out] at y12; have k0 := hSw.cell g0 (not_no _); have k1 := hSw.cell g1 (not_no _); have k2 := hSw.cell f0 (not_no _); go_simp
            simp only [Act.put, List.getElem_toArray, List.getElem_cons_zero, List.getElem_cons_succ, List.setIfInBounds_toArray, List.set_cons_zero, List.set_cons_succ]
            refine wpAnyH_take (i := 8) (v := .int .i64 1) rfl (by kernel_rfl) (by kernel_rfl) (by kernel_rfl) (fun _ _ _ h => h) (Or.inl ⟨by rfl, ?_⟩) (by assumption) ?_
            · intro W2 hSw; have y12 := obj_cell (hSw.obj HOR.out (not_no _)) 12; simp only [crdCs, List.getElem?_toArray, List.getElem?_cons_succ, List.getElem?_cons_zero] at y12; rw [HN.out] at y12; have k0 := hSw.cell g0 (not_no _); have k1 := hSw.cell g1 (not_no _); have k2 := hSw.cell f0 (not_no _); go_simp
            simp only [Act.put, List.getElem_toArray, List.getElem_cons_zero, List.getElem_cons_succ, List.setIfInBounds_toArray, List.set_cons_zero, List.set_cons_succ]
            refine wpAnyH_take (i := 9) (v := .bool true) rfl (by kernel_rfl) (by kernel_rfl) (by kernel_rfl) (fun _ _ _ h => h) (Or.inl ⟨by rfl, ?_⟩) (by assumption) ?_
            · intro W2 hSw; have y12 := obj_cell (hSw.obj HOR.out (not_no _)) 12; simp only [crdCs, List.getElem?_toArray, List.getElem?_cons_succ, List.getElem?_cons_zero] at y12; rw [HN.out] at y12; have k0 := hSw.cell g0 (not_no _); have k1 := hSw.cell g1 (not_no _); have k2 := hSw.cell f0 (not_no _); go_simp
            simp only [Act.put, List.getElem_toArray, List.getElem_cons_zero, List.getElem_cons_succ, List.setIfInBounds_toArray, List.set_cons_zero, List.set_cons_succ]
            refine wpAnyH_take (i := 10) (v := .bool true) rfl (by kernel_rfl) (by kernel_rfl) (by kernel_rfl) (fun _ _ _ h => h) (Or.inl ⟨by rfl, ?_⟩) (by assumption) ?_
            · intro W2 hSw; have y12 := obj_cell (hSw.obj HOR.out (not_no _)) 12; simp only [crdCs, List.getElem?_toArray, List.getElem?_cons_succ, List.getElem?_cons_zero] at y12; rw [HN.out] at y12; have k0 := hSw.cell g0 (not_no _); have k1 := hSw.cell g1 (not_no _); have k2 := hSw.cell f0 (not_no _); go_simp
            simp only [Act.put, List.getElem_toArray, List.getElem_cons_zero, List.getElem_cons_succ, List.setIfInBounds_toArray, List.set_cons_zero, List.set_cons_succ]
            refine wpAnyH_take (i := 11) (v := .pointer (some ⟨w.heap.size, 12, none⟩)) rfl (by kernel_rfl) (by kernel_rfl) (by kernel_rfl) (fun _ _ _ h => h) (Or.inl ⟨by rfl, ?_⟩) (by assumption) ?_
            · intro W2 hSw; have y12 := obj_cell (hSw.obj HOR.out (not_no _)) 12; simp only [crdCs, List.getElem?_toArray, List.getElem?_cons_succ, List.getElem?_cons_zero] at y12; rw [HN.out] at y12; have k0 := hSw.cell g0 (not_no _); have k1 := hSw.cell g1 (not_no _); have k2 := hSw.cell f0 (not_no _); go_simp
            simp only [Act.put, List.getElem_toArray, List.getElem_cons_zero, List.getElem_cons_succ, List.setIfInBounds_toArray, List.set_cons_zero, List.set_cons_succ]
            refine wpAnyH_take (i := 12) (v := .slice (some ⟨b, off, none⟩) n capt) rfl (by kernel_rfl) (by kernel_rfl) (by kernel_rfl) (fun _ _ _ h => h) (Or.inl ⟨by rfl, ?_⟩) (by assumption) ?_
            · intro W2 hSw; have y12 := obj_cell (hSw.obj HOR.out (not_no _)) 12; simp only [crdCs, List.getElem?_toArray, List.getElem?_cons_succ, List.getElem?_cons_zero] at y12; rw [HN.out] at y12; have k0 := hSw.cell g0 (not_no _); have k1 := hSw.cell g1 (not_no _); have k2 := hSw.cell f0 (not_no _); go_simp
            simp only [Act.put, List.getElem_toArray, List.getElem_cons_zero, List.getElem_cons_succ, List.setIfInBounds_toArray, List.set_cons_zero, List.set_cons_succ]
            refine wpAnyH_take (i := 13) (v := .pointer (some ⟨b, off, none⟩)) rfl (by kernel_rfl) (by kernel_rfl) (by kernel_rfl) (fun _ _ _ h => h) (Or.inl ⟨by rfl, ?_⟩) (by assumption) ?_
            · intro W2 hSw; have y12 := obj_cell (hSw.obj HOR.out (not_no _)) 12; simp only [crdCs, List.getElem?_toArray, List.getElem?_cons_succ, List.getElem?_cons_zero] at y12; rw [HN.out] at y12; have k0 := hSw.cell g0 (not_no _); have k1 := hSw.cell g1 (not_no _); have k2 := hSw.cell f0 (not_no _); go_simp
            simp only [Act.put, List.getElem_toArray, List.getElem_cons_zero, List.getElem_cons_succ, List.setIfInBounds_toArray, List.set_cons_zero, List.set_cons_succ]
            refine wpAnyH_take (i := 14) (v := .pointer (some ⟨b, off, none⟩)) rfl (by kernel_rfl) (by kernel_rfl) (by kernel_rfl) (fun _ _ _ h => h) (Or.inl ⟨by rfl, ?_⟩) (by assumption) ?_
            · intro W2 hSw; have y12 := obj_cell (hSw.obj HOR.out (not_no _)) 12; simp only [crdCs, List.getElem?_toArray, List.getElem?_cons_succ, List.getElem?_cons_zero] at y12; rw [HN.out] at y12; have k0 := hSw.cell g0 (not_no _); have k1 := hSw.cell g1 (not_no _); have k2 := hSw.cell f0 (not_no _); go_simp
            simp only [Act.put, List.getElem_toArray, List.getElem_cons_zero, List.getElem_cons_succ, List.setIfInBounds_toArray, List.set_cons_zero, List.set_cons_succ]
            refine wpAnyH_take (i := 15) (v := .int .i64 t0.when) rfl (by kernel_rfl) (by kernel_rfl) (by kernel_rfl) (fun _ _ _ h => h) (Or.inl ⟨by rfl, ?_⟩) (by assumption) ?_
            · intro W2 hSw; have y12 := obj_cell (hSw.obj HOR.out (not_no _)) 12; simp only [crdCs, List.getElem?_toArray, List.getElem?_cons_succ, List.getElem?_cons_zero] at y12; rw [HN.out] at y12; have k0 := hSw.cell g0 (not_no _); have k1 := hSw.cell g1 (not_no _); have k2 := hSw.cell f0 (not_no _); go_simp
            simp only [Act.put, List.getElem_toArray, List.getElem_cons_zero, List.getElem_cons_succ, List.setIfInBounds_toArray, List.set_cons_zero, List.set_cons_succ]
            refine wpAnyH_take (i := 16) (v := .pointer (some ⟨w.heap.size, 12, none⟩)) rfl (by kernel_rfl) (by kernel_rfl) (by kernel_rfl) (fun _ _ _ h => h) (Or.inl ⟨by rfl, ?_⟩) (by assumption) ?_
            · intro W2 hSw; have y12 := obj_cell (hSw.obj HOR.out (not_no _)) 12; simp only [crdCs, List.getElem?_toArray, List.getElem?_cons_succ, List.getElem?_cons_zero] at y12; rw [HN.out] at y12; have k0 := hSw.cell g0 (not_no _); have k1 := hSw.cell g1 (not_no _); have k2 := hSw.cell f0 (not_no _); go_simp
            simp only [Act.put, List.getElem_toArray, List.getElem_cons_zero, List.getElem_cons_succ, List.setIfInBounds_toArray, List.set_cons_zero, List.set_cons_succ]
            refine wpAnyH_take (i := 17) (v := .slice (some ⟨b, off, none⟩) n capt) rfl (by kernel_rfl) (by kernel_rfl) (by kernel_rfl) (fun _ _ _ h => h) (Or.inl ⟨by rfl, ?_⟩) (by assumption) ?_
            · intro W2 hSw; have y12 := obj_cell (hSw.obj HOR.out (not_no _)) 12; simp only [crdCs, List.getElem?_toArray, List.getElem?_cons_succ, List.getElem?_cons_zero] at y12; rw [HN.out] at y12; have k0 := hSw.cell g0 (not_no _); have k1 := hSw.cell g1 (not_no _); have k2 := hSw.cell f0 (not_no _); go_simp
            simp only [Act.put, List.getElem_toArray, List.getElem_cons_zero, List.getElem_cons_succ, List.setIfInBounds_toArray, List.set_cons_zero, List.set_cons_succ]
            refine wpAnyH_take (i := 18) (v := .pointer (some ⟨b, off + 2, none⟩)) rfl (by kernel_rfl) (by kernel_rfl) (by kernel_rfl) (fun _ _ _ h => h) (Or.inl ⟨by rfl, ?_⟩) (by assumption) ?_
            · intro W2 hSw; have y12 := obj_cell (hSw.obj HOR.out (not_no _)) 12; simp only [crdCs, List.getElem?_toArray, List.getElem?_cons_succ, List.getElem?_cons_zero] at y12; rw [HN.out] at y12; have k0 := hSw.cell g0 (not_no _); have k1 := hSw.cell g1 (not_no _); have k2 := hSw.cell f0 (not_no _); go_simp
            simp only [Act.put, List.getElem_toArray, List.getElem_cons_zero, List.getElem_cons_succ, List.setIfInBounds_toArray, List.set_cons_zero, List.set_cons_succ]
            refine wpAnyH_take (i := 19) (v := .pointer (some ⟨b, off + 2, none⟩)) rfl (by kernel_rfl) (by kernel_rfl) (by kernel_rfl) (fun _ _ _ h => h) (Or.inl ⟨by rfl, ?_⟩) (by assumption) ?_
            · intro W2 hSw; have y12 := obj_cell (hSw.obj HOR.out (not_no _)) 12; simp only [crdCs, List.getElem?_toArray, List.getElem?_cons_succ, List.getElem?_cons_zero] at y12; rw [HN.out] at y12; have k0 := hSw.cell g0 (not_no _); have k1 := hSw.cell g1 (not_no _); have k2 := hSw.cell f0 (not_no _); go_simp
            simp only [Act.put, List.getElem_toArray, List.getElem_cons_zero, List.getElem_cons_succ, List.setIfInBounds_toArray, List.set_cons_zero, List.set_cons_succ]
            refine wpAnyH_take (i := 20) (v := .int .i64 t.when) rfl (by kernel_rfl) (by kernel_rfl) (by kernel_rfl) (fun _ _ _ h => h) (Or.inl ⟨by rfl, ?_⟩) (by assumption) ?_
            · intro W2 hSw; have y12 := obj_cell (hSw.obj HOR.out (not_no _)) 12; simp only [crdCs, List.getElem?_toArray, List.getElem?_cons_succ, List.getElem?_cons_zero] at y12; rw [HN.out] at y12; have k0 := hSw.cell g0 (not_no _); have k1 := hSw.cell g1 (not_no _); have k2 := hSw.cell f0 (not_no _); go_simp
            simp only [Act.put, List.getElem_toArray, List.getElem_cons_zero, List.getElem_cons_succ, List.setIfInBounds_toArray, List.set_cons_zero, List.set_cons_succ]
            refine wpAnyH_take (i := 21) (v := .bool false) rfl (by kernel_rfl) (by kernel_rfl) (by kernel_rfl) (fun _ _ _ h => h) (Or.inl ⟨by rfl, ?_⟩) (by assumption) ?_
            · intro W2 hSw; have y12 := obj_cell (hSw.obj HOR.out (not_no _)) 12; simp only [crdCs, List.getElem?_toArray, List.getElem?_cons_succ, List.getElem?_cons_zero] at y12; rw [HN.out] at y12; have k0 := hSw.cell g0 (not_no _); have k1 := hSw.cell g1 (not_no _); have k2 := hSw.cell f0 (not_no _); go_simp
            simp only [Act.put, List.getElem_toArray, List.getElem_cons_zero, List.getElem_cons_succ, List.setIfInBounds_toArray, List.set_cons_zero, List.set_cons_succ]
            refine wpAnyH_take (i := 22) (v := .bool false) rfl (by kernel_rfl) (by kernel_rfl) (by kernel_rfl) (fun _ _ _ h => h) (Or.inl ⟨by rfl, ?_⟩) (by assumption) ?_
            · intro W2 hSw; have y12 := obj_cell (hSw.obj HOR.out (not_no _)) 12; simp only [crdCs, List.getElem?_toArray, List.getElem?_cons_succ, List.getElem?_cons_zero] at y12; rw [HN.out] at y12; have k0 := hSw.cell g0 (not_no _); have k1 := hSw.cell g1 (not_no _); have k2 := hSw.cell f0 (not_no _); go_simp
            simp only [Act.put, List.getElem_toArray, List.getElem_cons_zero, List.getElem_cons_succ, List.setIfInBounds_toArray, List.set_cons_zero, List.set_cons_succ]
            refine wpAnyH_take (i := 23) (v := .bool false) rfl (by kernel_rfl) (by kernel_rfl) (by kernel_rfl) (fun _ _ _ h => h) (Or.inl ⟨by rfl, ?_⟩) (by assumption) ?_
            · intro W2 hSw; have y12 := obj_cell (hSw.obj HOR.out (not_no _)) 12; simp only [crdCs, List.getElem?_toArray, List.getElem?_cons_succ, List.getElem?_cons_zero] at y12; rw [HN.out] at y12; have k0 := hSw.cell g0 (not_no _); have k1 := hSw.cell g1 (not_no _); have k2 := hSw.cell f0 (not_no _); go_simp
            simp only [Act.put, List.getElem_toArray, List.getElem_cons_zero, List.getElem_cons_succ, List.setIfInBounds_toArray, List.set_cons_zero, List.set_cons_succ]
            refine wpAnyH_done (by kernel_rfl) ?_ _
            go_wp2_with fail
            have hI := HI.out
            exact ⟨⟨2, by go_num, by rw [HN.out]; omega, HUP.out, HKR.out.and HK5.out⟩, by simp [intOf]; rw [HN.out]; omega⟩
        · have d9 : decide (i < n) = false := decide_eq_false hlt
          obtain rfl : cv = true := by
            rw [HR.out, HN.out, show n = i by omega]; exact HTO.out
          clear hk htr hlt hobr hn
          go_wp2_with fail
          go_ret
          exact ⟨rfl, HK4.out.and HKR.out⟩
    have d2 : (c.kind == 2) = false := by simpa using k2
    by_cases k3 : c.kind = 3
    · have d3 : (c.kind == 3) = true := by simpa using k3
      have k34 : c.kind = 3 ∨ c.kind = 4 := .inl k3
      go_wp2_with fail
      clear m0 m1 m2 m3 m4 m5 m6 m7 m8 m9 m10 m11 m12 m13 hz
      go_loopw [5] (fun iv wr => VeRel c.effs wc iv wr) (fun iv _ => c.effs.length - (intOf iv).toNat)
      case atStart => exact ⟨0, rfl, Nat.zero_le _, rfl, Kept.refl No wc⟩
      case round =>
        obtain ⟨i, rfl, hi, hf, hk⟩ := hrel
        have HF := Lib.hid hf
        have HKR := Lib.hid hk
        have hobr := HO1.out.no hk
        obtain ⟨m0, m1, m2, m3, m4, m5, m6, m7, m8, m9, m10, m11, m12, m13⟩ := hobr.cells
        have HOR := Lib.hid hobr
        have hzr := obj_lt hobr
        obtain ⟨n, hn⟩ : ∃ n, c.effs.length = n := ⟨_, rfl⟩
        have HN := Lib.hid hn
        have hnb : n ≤ 1000000 := by rw [← hn]; exact HSM.out.effs
        rw [hn] at hi m11
        by_cases hlt : i < n
        · have hil : i < c.effs.length := by rw [hn]; exact hlt
          obtain ⟨e, he⟩ : ∃ e, c.effs[i]? = some e := ⟨_, List.getElem?_eq_getElem hil⟩
          obtain ⟨b, off, c1, hs, g0, g1, g2, g3, g4⟩ := (HEF.out _ (HK1.out.and hk)).at he
          rw [hn] at hs
          cases hs
          have HT := Lib.hid (show c.effs.take (i + 1) = c.effs.take i ++ [e] by rw [List.take_add_one, he]; rfl)
          have HM := Lib.hid (List.mem_of_getElem? he)
          have hie : itselfB e = ((e.target == 0) && ((e.code == 8) || (e.code == 9))) := rfl
          obtain ⟨q1, h1⟩ : ∃ a, (e.target == 0) = a := ⟨_, rfl⟩
          obtain ⟨q2, h2⟩ : ∃ a, (e.code == 8) = a := ⟨_, rfl⟩
          obtain ⟨q3, h3⟩ : ∃ a, (e.code == 9) = a := ⟨_, rfl⟩
          rw [h1, h2, h3] at hie
          have HIE := Lib.hid hie
          have d9 : decide (i < n) = true := decide_eq_true hlt
          have hi0 : (0 : Int) ≤ (i : Int) := by omega
          have hin : (i : Int) < (n : Int) := by omega
          have q4 : IntKind.i64.wrap ((i : Int) + 1) = (i : Int) + 1 := IntWalk.i64_in _ (by omega)
          have HI := Lib.hid hlt
          clear hk hf hlt hobr hil he hn hie
          cases q1
          · have HUP := Lib.hid (show (c.effs.take (i + 1)).any itselfB = false by rw [HT.out, List.any_append, HF.out, List.any_cons, HIE.out]; rfl)
            go_wp2_with fail
            have hI := HI.out
            refine ⟨⟨i + 1, by go_num, by rw [HN.out]; omega, HUP.out, ?_⟩, by simp [intOf]; rw [HN.out]; omega⟩
            first | exact HKR.out.alloc _ | exact (HKR.out.alloc _).put (by have := HKR.out.size; simp; omega) _
          cases q2
          rotate_left
          · obtain rfl : cv = false := by
              rw [← HCV.out, cv_3 k34 HNR.out.1 HNR.out.2, List.any_eq_true.2 ⟨e, HM.out, by rw [HIE.out]; rfl⟩]; rfl
            go_wp2_with fail
            go_ret
            refine ⟨rfl, HK1.out.and ?_⟩
            first | exact HKR.out.alloc _ | exact (HKR.out.alloc _).put (by have := HKR.out.size; simp; omega) _
          cases q3
          · have HUP := Lib.hid (show (c.effs.take (i + 1)).any itselfB = false by rw [HT.out, List.any_append, HF.out, List.any_cons, HIE.out]; rfl)
            go_wp2_with fail
            have hI := HI.out
            refine ⟨⟨i + 1, by go_num, by rw [HN.out]; omega, HUP.out, ?_⟩, by simp [intOf]; rw [HN.out]; omega⟩
            first | exact HKR.out.alloc _ | exact (HKR.out.alloc _).put (by have := HKR.out.size; simp; omega) _
          · obtain rfl : cv = false := by
              rw [← HCV.out, cv_3 k34 HNR.out.1 HNR.out.2, List.any_eq_true.2 ⟨e, HM.out, by rw [HIE.out]; rfl⟩]; rfl
            go_wp2_with fail
            go_ret
            refine ⟨rfl, HK1.out.and ?_⟩
            first | exact HKR.out.alloc _ | exact (HKR.out.alloc _).put (by have := HKR.out.size; simp; omega) _
        · have d9 : decide (i < n) = false := decide_eq_false hlt
          have hin : ¬ ((i : Int) < (n : Int)) := by omega
          have HNO := Lib.hid (show c.effs.any itselfB = false by
            have := HF.out
            rw [List.take_of_length_le (by rw [HN.out]; omega)] at this
            exact this)
          clear hk hf hlt hobr hn
          by_cases z0 : c.makes = 0
          rotate_left
          · have e0 : (c.makes == 0) = false := by simpa using z0
            obtain rfl : cv = false := by rw [← HCV.out, cv_3 k34 HNR.out.1 HNR.out.2, e0, Bool.false_and, Bool.false_and, Bool.false_and, Bool.false_and, Bool.and_false]
            go_wp2_with fail
            go_ret
            exact ⟨rfl, HK1.out.and HKR.out⟩
          have e0 : (c.makes == 0) = true := by simpa using z0
          obtain ⟨qc, hqc⟩ : ∃ q, cost c.o0 c.o1 c.o2 c.o3 c.any = q := ⟨_, rfl⟩
          rw [hqc] at HCO
          go_wp2_with fail
          refine (HCO.out _).mono ?_
          rintro x w5 ⟨rfl, hk5⟩
          have hob5 := HOR.out.no hk5
          obtain ⟨m0, m1, m2, m3, m4, m5, m6, m7, m8, m9, m10, m11, m12, m13⟩ := hob5.cells
          rw [HN.out] at m11
          have HO5 := Lib.hid hob5
          have HK5 := Lib.hid ((HK1.out.and HKR.out).and hk5)
          have hz5 := obj_lt hob5
          clear hk5 hob5
          cases qc
          · obtain rfl : cv = false := by rw [← HCV.out, cv_3 k34 HNR.out.1 HNR.out.2, hqc, Bool.and_false, Bool.false_and, Bool.false_and, Bool.false_and, Bool.and_false]
            go_wp2_with fail
            go_ret
            exact ⟨rfl, HK5.out⟩
          by_cases y0 : 0 < n
          rotate_left
          · have y0' : ¬ (0 < (n : Int)) := by omega
            obtain rfl : cv = false := by rw [← HCV.out, cv_3 k34 HNR.out.1 HNR.out.2, HN.out, decide_eq_false y0, Bool.and_false, Bool.false_and, Bool.false_and, Bool.and_false]
            go_wp2_with fail
            go_ret
            exact ⟨rfl, HK5.out⟩
          have y0' : 0 < (n : Int) := by omega
          obtain ⟨qa, hqa⟩ : ∃ q, allE c.effs = q := ⟨_, rfl⟩
          rw [hqa, HN.out] at HAL
          go_wp2_with fail
          refine (HAL.out _ HK5.out).mono ?_
          rintro x w6 ⟨rfl, hk6⟩
          have HK6 := Lib.hid (HK5.out.and hk6)
          clear hk6
          cases qa
          · obtain rfl : cv = false := by rw [← HCV.out, cv_3 k34 HNR.out.1 HNR.out.2, hqa, Bool.and_false, Bool.false_and, Bool.and_false]
            go_wp2_with fail
            go_ret
            exact ⟨rfl, HK6.out⟩
          obtain rfl : cv = sb := by
            rw [← HCV.out, cv_3 k34 HNR.out.1 HNR.out.2, HNO.out, e0, hqc, HN.out, decide_eq_true y0, hqa, hsb]; rfl
          go_wp2_with fail
          go_ret
          exact ⟨rfl, HK6.out⟩
    have d3 : (c.kind == 3) = false := by simpa using k3
    by_cases k4 : c.kind = 4
    · have d4 : (c.kind == 4) = true := by simpa using k4
      have k34 : c.kind = 3 ∨ c.kind = 4 := .inr k4
      go_wp2_with fail
      clear m0 m1 m2 m3 m4 m5 m6 m7 m8 m9 m10 m11 m12 m13 hz
      go_loopw [5] (fun iv wr => VeRel c.effs wc iv wr) (fun iv _ => c.effs.length - (intOf iv).toNat)
      case atStart => exact ⟨0, rfl, Nat.zero_le _, rfl, Kept.refl No wc⟩
      case round =>
        obtain ⟨i, rfl, hi, hf, hk⟩ := hrel
        have HF := Lib.hid hf
        have HKR := Lib.hid hk
        have hobr := HO1.out.no hk
        obtain ⟨m0, m1, m2, m3, m4, m5, m6, m7, m8, m9, m10, m11, m12, m13⟩ := hobr.cells
        have HOR := Lib.hid hobr
        have hzr := obj_lt hobr
        obtain ⟨n, hn⟩ : ∃ n, c.effs.length = n := ⟨_, rfl⟩
        have HN := Lib.hid hn
        have hnb : n ≤ 1000000 := by rw [← hn]; exact HSM.out.effs
        rw [hn] at hi m11
        by_cases hlt : i < n
        · have hil : i < c.effs.length := by rw [hn]; exact hlt
          obtain ⟨e, he⟩ : ∃ e, c.effs[i]? = some e := ⟨_, List.getElem?_eq_getElem hil⟩
          obtain ⟨b, off, c1, hs, g0, g1, g2, g3, g4⟩ := (HEF.out _ (HK1.out.and hk)).at he
          rw [hn] at hs
          cases hs
          have HT := Lib.hid (show c.effs.take (i + 1) = c.effs.take i ++ [e] by rw [List.take_add_one, he]; rfl)
          have HM := Lib.hid (List.mem_of_getElem? he)
          have hie : itselfB e = ((e.target == 0) && ((e.code == 8) || (e.code == 9))) := rfl
          obtain ⟨q1, h1⟩ : ∃ a, (e.target == 0) = a := ⟨_, rfl⟩
          obtain ⟨q2, h2⟩ : ∃ a, (e.code == 8) = a := ⟨_, rfl⟩
          obtain ⟨q3, h3⟩ : ∃ a, (e.code == 9) = a := ⟨_, rfl⟩
          rw [h1, h2, h3] at hie
          have HIE := Lib.hid hie
          have d9 : decide (i < n) = true := decide_eq_true hlt
          have hi0 : (0 : Int) ≤ (i : Int) := by omega
          have hin : (i : Int) < (n : Int) := by omega
          have q4 : IntKind.i64.wrap ((i : Int) + 1) = (i : Int) + 1 := IntWalk.i64_in _ (by omega)
          have HI := Lib.hid hlt
          clear hk hf hlt hobr hil he hn hie
          cases q1
          · have HUP := Lib.hid (show (c.effs.take (i + 1)).any itselfB = false by rw [HT.out, List.any_append, HF.out, List.any_cons, HIE.out]; rfl)
            go_wp2_with fail
            have hI := HI.out
            refine ⟨⟨i + 1, by go_num, by rw [HN.out]; omega, HUP.out, ?_⟩, by simp [intOf]; rw [HN.out]; omega⟩
            first | exact HKR.out.alloc _ | exact (HKR.out.alloc _).put (by have := HKR.out.size; simp; omega) _
          cases q2
          rotate_left
          · obtain rfl : cv = false := by
              rw [← HCV.out, cv_3 k34 HNR.out.1 HNR.out.2, List.any_eq_true.2 ⟨e, HM.out, by rw [HIE.out]; rfl⟩]; rfl
            go_wp2_with fail
            go_ret
            refine ⟨rfl, HK1.out.and ?_⟩
            first | exact HKR.out.alloc _ | exact (HKR.out.alloc _).put (by have := HKR.out.size; simp; omega) _
          cases q3
          · have HUP := Lib.hid (show (c.effs.take (i + 1)).any itselfB = false by rw [HT.out, List.any_append, HF.out, List.any_cons, HIE.out]; rfl)
            go_wp2_with fail
            have hI := HI.out
            refine ⟨⟨i + 1, by go_num, by rw [HN.out]; omega, HUP.out, ?_⟩, by simp [intOf]; rw [HN.out]; omega⟩
            first | exact HKR.out.alloc _ | exact (HKR.out.alloc _).put (by have := HKR.out.size; simp; omega) _
          · obtain rfl : cv = false := by
              rw [← HCV.out, cv_3 k34 HNR.out.1 HNR.out.2, List.any_eq_true.2 ⟨e, HM.out, by rw [HIE.out]; rfl⟩]; rfl
            go_wp2_with fail
            go_ret
            refine ⟨rfl, HK1.out.and ?_⟩
            first | exact HKR.out.alloc _ | exact (HKR.out.alloc _).put (by have := HKR.out.size; simp; omega) _
        · have d9 : decide (i < n) = false := decide_eq_false hlt
          have hin : ¬ ((i : Int) < (n : Int)) := by omega
          have HNO := Lib.hid (show c.effs.any itselfB = false by
            have := HF.out
            rw [List.take_of_length_le (by rw [HN.out]; omega)] at this
            exact this)
          clear hk hf hlt hobr hn
          by_cases z0 : c.makes = 0
          rotate_left
          · have e0 : (c.makes == 0) = false := by simpa using z0
            obtain rfl : cv = false := by rw [← HCV.out, cv_3 k34 HNR.out.1 HNR.out.2, e0, Bool.false_and, Bool.false_and, Bool.false_and, Bool.false_and, Bool.and_false]
            go_wp2_with fail
            go_ret
            exact ⟨rfl, HK1.out.and HKR.out⟩
          have e0 : (c.makes == 0) = true := by simpa using z0
          obtain ⟨qc, hqc⟩ : ∃ q, cost c.o0 c.o1 c.o2 c.o3 c.any = q := ⟨_, rfl⟩
          rw [hqc] at HCO
          go_wp2_with fail
          refine (HCO.out _).mono ?_
          rintro x w5 ⟨rfl, hk5⟩
          have hob5 := HOR.out.no hk5
          obtain ⟨m0, m1, m2, m3, m4, m5, m6, m7, m8, m9, m10, m11, m12, m13⟩ := hob5.cells
          rw [HN.out] at m11
          have HO5 := Lib.hid hob5
          have HK5 := Lib.hid ((HK1.out.and HKR.out).and hk5)
          have hz5 := obj_lt hob5
          clear hk5 hob5
          cases qc
          · obtain rfl : cv = false := by rw [← HCV.out, cv_3 k34 HNR.out.1 HNR.out.2, hqc, Bool.and_false, Bool.false_and, Bool.false_and, Bool.false_and, Bool.and_false]
            go_wp2_with fail
            go_ret
            exact ⟨rfl, HK5.out⟩
          by_cases y0 : 0 < n
          rotate_left
          · have y0' : ¬ (0 < (n : Int)) := by omega
            obtain rfl : cv = false := by rw [← HCV.out, cv_3 k34 HNR.out.1 HNR.out.2, HN.out, decide_eq_false y0, Bool.and_false, Bool.false_and, Bool.false_and, Bool.and_false]
            go_wp2_with fail
            go_ret
            exact ⟨rfl, HK5.out⟩
          have y0' : 0 < (n : Int) := by omega
          obtain ⟨qa, hqa⟩ : ∃ q, allE c.effs = q := ⟨_, rfl⟩
          rw [hqa, HN.out] at HAL
          go_wp2_with fail
          refine (HAL.out _ HK5.out).mono ?_
          rintro x w6 ⟨rfl, hk6⟩
          have HK6 := Lib.hid (HK5.out.and hk6)
          clear hk6
          cases qa
          · obtain rfl : cv = false := by rw [← HCV.out, cv_3 k34 HNR.out.1 HNR.out.2, hqa, Bool.and_false, Bool.false_and, Bool.and_false]
            go_wp2_with fail
            go_ret
            exact ⟨rfl, HK6.out⟩
          obtain rfl : cv = sb := by
            rw [← HCV.out, cv_3 k34 HNR.out.1 HNR.out.2, HNO.out, e0, hqc, HN.out, decide_eq_true y0, hqa, hsb]; rfl
          go_wp2_with fail
          go_ret
          exact ⟨rfl, HK6.out⟩
    have d4 : (c.kind == 4) = false := by simpa using k4
    obtain rfl : cv = false := by rw [← HCV.out, cv_else ⟨k1, k2, k3, k4⟩]
    go_wp2_with fail
    go_ret
    exact ⟨rfl, HK1.out⟩
end Go.Proofs.YtclgoilfclmibaaGreatDoor
