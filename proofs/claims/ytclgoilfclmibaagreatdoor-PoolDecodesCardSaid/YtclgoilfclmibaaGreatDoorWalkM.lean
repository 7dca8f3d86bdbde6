/-
  Pool: which cards are valid (printed by tools/pool_m.py).
-/
import Derived.Test.YtclgoilfclmibaaGreatDoorKb
set_option linter.unusedVariables false
set_option linter.unusedSimpArgs false
namespace Go.Proofs.YtclgoilfclmibaaGreatDoor
open Go.RowKit Go.Zn
attribute [local go_sem] Oper.semAt_some

/-- a card of a size that is not beyond all bounds -/
structure Sm (c : Crd) : Prop where
  name : c.name.length ≤ 1000000
  effs : c.effs.length ≤ 1000000
  trgs : c.trgs.length ≤ 1000000
  tre : ∀ t ∈ c.trgs, t.effs.length ≤ 1000000
  k0 : -9223372036854775808 ≤ c.keys
  k1 : c.keys ≤ 9223372036854775807
def CObj (w : World) (g : Nat) (c : Crd) (ev tv : Value) : Prop := w.heap[g]? = some (.cells (crdCs c ev tv).toArray 46 (0, 0))
theorem CObj.cells {w : World} {g : Nat} {c : Crd} {ev tv : Value} (h : CObj w g c ev tv) : w.cell? ⟨g, 0, none⟩ = some (.string (strOf c.name)) ∧ w.cell? ⟨g, 1, none⟩ = some (.int .i64 c.kind) ∧ w.cell? ⟨g, 2, none⟩ = some (.int .i64 c.o0) ∧ w.cell? ⟨g, 3, none⟩ = some (.int .i64 c.o1) ∧ w.cell? ⟨g, 4, none⟩ = some (.int .i64 c.o2) ∧ w.cell? ⟨g, 5, none⟩ = some (.int .i64 c.o3) ∧ w.cell? ⟨g, 6, none⟩ = some (.int .i64 c.any) ∧ w.cell? ⟨g, 7, none⟩ = some (.int .i64 c.makes) ∧ w.cell? ⟨g, 8, none⟩ = some (.int .i64 c.power) ∧ w.cell? ⟨g, 9, none⟩ = some (.int .i64 c.tough) ∧ w.cell? ⟨g, 10, none⟩ = some (.int .i64 c.keys) ∧ w.cell? ⟨g, 11, none⟩ = some ev ∧ w.cell? ⟨g, 12, none⟩ = some tv ∧ w.cell? ⟨g, 13, none⟩ = some (.int .i64 c.rarity) :=
  ⟨obj_cell h 0, obj_cell h 1, obj_cell h 2, obj_cell h 3, obj_cell h 4, obj_cell h 5, obj_cell h 6, obj_cell h 7, obj_cell h 8, obj_cell h 9, obj_cell h 10, obj_cell h 11, obj_cell h 12, obj_cell h 13⟩
theorem CObj.no {w w' : World} {g : Nat} {c : Crd} {ev tv : Value} (h : CObj w g c ev tv) (hk : Kept No w w') : CObj w' g c ev tv := hk.obj h (not_no _)
/-- what the kind asks -/
def kdB (c : Crd) : Bool := if c.kind = 1 then inB c.makes 0 3 && (val c.o0 c.o1 c.o2 c.o3 c.any == 0) && decide (c.effs.length = 0) && stillB c
   else if c.kind = 2 then (c.makes == 0) && inB c.power 0 20 && inB c.tough 1 20 && keysB c.keys && trgsB c.trgs
   else if c.kind = 3 ∨ c.kind = 4 then (c.makes == 0) && decide (0 < c.effs.length) && !c.effs.any itselfB && stillB c
   else false
theorem cvalid_kd (c : Crd) : cvalid c = (namedB c.name && inB c.rarity 1 4 && cost c.o0 c.o1 c.o2 c.o3 c.any && allE c.effs && kdB c) := rfl
set_option maxRecDepth 100000 in
set_option maxHeartbeats 4000000 in
theorem cvalid_any {c : Crd} (hs : Sm c) {w : World} {B : Nat → Prop} {ev tv : Value} (h : CrdAt w B c ev tv) : Calls Tryz.prog 27 #[crdV c ev tv] w fun x w' => x = .returned (.bool (cvalid c)) ∧ Kept No w w' := by
  obtain ⟨adt, capt, rfl⟩ := h.trgs.slice
  obtain ⟨ade, cape, rfl⟩ := rd_slice h.effs
  have HN := Lib.hid (fun w' => named_any hs.name w')
  have HRA := Lib.hid (fun w' => cwithin_any c.rarity 1 4 w')
  have HC := Lib.hid (fun w' => validCost_any c.o0 c.o1 c.o2 c.o3 c.any w')
  have HV := Lib.hid (fun w' => value_any c.o0 c.o1 c.o2 c.o3 c.any w')
  have HA := Lib.hid (fun w' (hk : Kept No w w') => allE_any hs.effs (h.effs.no hk))
  have HM := Lib.hid (fun w' => cwithin_any c.makes 0 3 w')
  have HPO := Lib.hid (fun w' => cwithin_any c.power 0 20 w')
  have HTO := Lib.hid (fun w' => cwithin_any c.tough 1 20 w')
  have HTR := Lib.hid (fun w' (hk : Kept No w w') => triggers_any hs.trgs hs.tre (h.trgs.no hk))
  have HI := Lib.hid (fun w' (hk : Kept No w w') => hase_any itself_any eg_itself hs.effs (h.effs.no hk))
  have HS := Lib.hid (fun w' => still_any c (.slice ade c.effs.length cape) adt capt w')
  have HKB := Lib.hid (keys_bits c.keys hs.k0 hs.k1)
  have HO0 := Lib.hid (show CObj (w.alloc (.cells #[.string (strOf c.name), .int .i64 c.kind, .int .i64 c.o0, .int .i64 c.o1, .int .i64 c.o2, .int .i64 c.o3, .int .i64 c.any, .int .i64 c.makes, .int .i64 c.power, .int .i64 c.tough, .int .i64 c.keys, .slice ade c.effs.length cape, .slice adt c.trgs.length capt, .int .i64 c.rarity] 46)) w.heap.size c (.slice ade c.effs.length cape) (.slice adt c.trgs.length capt) from heap_alloc_new w _)
  have HK0 := Lib.hid ((Kept.refl No w).alloc (.cells #[.string (strOf c.name), .int .i64 c.kind, .int .i64 c.o0, .int .i64 c.o1, .int .i64 c.o2, .int .i64 c.o3, .int .i64 c.any, .int .i64 c.makes, .int .i64 c.power, .int .i64 c.tough, .int .i64 c.keys, .slice ade c.effs.length cape, .slice adt c.trgs.length capt, .int .i64 c.rarity] 46))
  have hR := cvalid_kd c
  have HE0 := Lib.hid (show ((c.effs.length : Int) == 0) = decide (c.effs.length = 0) by by_cases h : c.effs.length = 0 <;> simp [h])
  have HE1 := Lib.hid (show decide (0 < (c.effs.length : Int)) = decide (0 < c.effs.length) from decide_eq_decide.mpr (by omega))
  obtain ⟨b1, hb1⟩ : ∃ b, namedB c.name = b := ⟨_, rfl⟩
  rw [hb1] at hR HN
  obtain ⟨b2, hb2⟩ : ∃ b, inB c.rarity 1 4 = b := ⟨_, rfl⟩
  rw [hb2] at hR HRA
  obtain ⟨b3, hb3⟩ : ∃ b, cost c.o0 c.o1 c.o2 c.o3 c.any = b := ⟨_, rfl⟩
  rw [hb3] at hR HC
  obtain ⟨b4, hb4⟩ : ∃ b, allE c.effs = b := ⟨_, rfl⟩
  rw [hb4] at hR HA
  obtain ⟨r, hr⟩ : ∃ r, cvalid c = r := ⟨_, rfl⟩
  rw [hr] at hR ⊢
  have HR := Lib.hid hR
  clear hR hr hs h hb1 hb2 hb3 hb4
  go_enter Tryz.func27, Tryz.ntmps27
  go_wp2_with fail
  refine (HN.out _).mono ?_
  rintro x w1 ⟨rfl, hk⟩
  have hob := CObj.no HO0.out hk
  obtain ⟨m0, m1, m2, m3, m4, m5, m6, m7, m8, m9, m10, m11, m12, m13⟩ := hob.cells
  have HO1 := Lib.hid hob
  have HK1 := Lib.hid (HK0.out.and hk)
  clear hk hob
  cases b1
  case false =>
    go_wp2_with fail
    go_ret
    exact ⟨by rw [HR.out]; rfl, HK1.out⟩
  go_wp2_with fail
  refine (HRA.out _).mono ?_
  rintro x w1 ⟨rfl, rfl⟩
  cases b2
  case false =>
    go_wp2_with fail
    go_ret
    exact ⟨by rw [HR.out]; rfl, HK1.out⟩
  go_wp2_with fail
  refine (HC.out _).mono ?_
  rintro x w2 ⟨rfl, hk⟩
  have hob := CObj.no HO1.out hk
  obtain ⟨m0, m1, m2, m3, m4, m5, m6, m7, m8, m9, m10, m11, m12, m13⟩ := hob.cells
  have HO2 := Lib.hid hob
  have HK2 := Lib.hid (HK1.out.and hk)
  clear hk hob
  cases b3
  case false =>
    go_wp2_with fail
    go_ret
    exact ⟨by rw [HR.out]; rfl, HK2.out⟩
  go_wp2_with fail
  refine (HA.out _ HK2.out).mono ?_
  rintro x w3 ⟨rfl, hk⟩
  have hob := CObj.no HO2.out hk
  obtain ⟨m0, m1, m2, m3, m4, m5, m6, m7, m8, m9, m10, m11, m12, m13⟩ := hob.cells
  have HO3 := Lib.hid hob
  have HK3 := Lib.hid (HK2.out.and hk)
  clear hk hob
  cases b4
  case false =>
    go_wp2_with fail
    go_ret
    exact ⟨by rw [HR.out]; rfl, HK3.out⟩
  have HR2 := Lib.hid (show r = kdB c from HR.out)
  clear HR
  by_cases k1 : c.kind = 1
  case pos =>
    have d1 : (c.kind == 1) = true := by simpa using k1
    have hR : kdB c = (inB c.makes 0 3 && (val c.o0 c.o1 c.o2 c.o3 c.any == 0) && decide (c.effs.length = 0) && stillB c) := by unfold kdB; rw [if_pos k1]
    obtain ⟨a1, ha1⟩ : ∃ b, inB c.makes 0 3 = b := ⟨_, rfl⟩
    rw [ha1] at hR
    rw [ha1] at HM
    obtain ⟨v, hv⟩ : ∃ b, val c.o0 c.o1 c.o2 c.o3 c.any = b := ⟨_, rfl⟩
    rw [hv] at hR
    rw [hv] at HV
    obtain ⟨a2, ha2⟩ : ∃ b, (v == 0) = b := ⟨_, rfl⟩
    rw [ha2] at hR
    obtain ⟨a3, ha3⟩ : ∃ b, decide (c.effs.length = 0) = b := ⟨_, rfl⟩
    rw [ha3] at hR
    rw [ha3] at HE0
    obtain ⟨a4, ha4⟩ : ∃ b, stillB c = b := ⟨_, rfl⟩
    rw [ha4] at hR
    rw [ha4] at HS
    have HR := Lib.hid (HR2.out.trans hR)
    have he0 := HE0.out
    clear hR k1 hv ha1 ha3 ha4
    go_wp2_with fail
    refine (HM.out _).mono ?_
    rintro x w1 ⟨rfl, rfl⟩
    cases a1
    case false =>
      go_wp2_with fail
      go_ret
      exact ⟨by rw [HR.out]; rfl, HK3.out⟩
    go_wp2_with fail
    refine (HV.out _).mono ?_
    rintro x w4 ⟨rfl, hk⟩
    have hob := CObj.no HO3.out hk
    obtain ⟨m0, m1, m2, m3, m4, m5, m6, m7, m8, m9, m10, m11, m12, m13⟩ := hob.cells
    have HO4 := Lib.hid hob
    have HK4 := Lib.hid (HK3.out.and hk)
    clear hk hob
    cases a2
    case false =>
      go_wp2_with fail
      go_ret
      exact ⟨by rw [HR.out]; rfl, HK4.out⟩
    cases a3
    case false =>
      go_wp2_with fail
      go_ret
      exact ⟨by rw [HR.out]; rfl, HK4.out⟩
    go_wp2_with fail
    refine (HS.out _).mono ?_
    rintro x w5 ⟨rfl, hk⟩
    have hob := CObj.no HO4.out hk
    obtain ⟨m0, m1, m2, m3, m4, m5, m6, m7, m8, m9, m10, m11, m12, m13⟩ := hob.cells
    have HO5 := Lib.hid hob
    have HK5 := Lib.hid (HK4.out.and hk)
    clear hk hob
    go_wp2_with fail
    go_ret
    exact ⟨by rw [HR.out]; rfl, HK5.out⟩
  have d1 : (c.kind == 1) = false := by simpa using k1
  by_cases k2 : c.kind = 2
  case pos =>
    have d2 : (c.kind == 2) = true := by simpa using k2
    have hR : kdB c = ((c.makes == 0) && inB c.power 0 20 && inB c.tough 1 20 && keysB c.keys && trgsB c.trgs) := by unfold kdB; rw [if_neg k1, if_pos k2]
    obtain ⟨a1, ha1⟩ : ∃ b, (c.makes == 0) = b := ⟨_, rfl⟩
    rw [ha1] at hR
    obtain ⟨a2, ha2⟩ : ∃ b, inB c.power 0 20 = b := ⟨_, rfl⟩
    rw [ha2] at hR
    rw [ha2] at HPO
    obtain ⟨a3, ha3⟩ : ∃ b, inB c.tough 1 20 = b := ⟨_, rfl⟩
    rw [ha3] at hR
    rw [ha3] at HTO
    obtain ⟨a4, ha4⟩ : ∃ b, keysB c.keys = b := ⟨_, rfl⟩
    rw [ha4] at hR
    rw [ha4] at HKB
    obtain ⟨a5, ha5⟩ : ∃ b, trgsB c.trgs = b := ⟨_, rfl⟩
    rw [ha5] at hR
    rw [ha5] at HTR
    have HR := Lib.hid (HR2.out.trans hR)
    have hkb := HKB.out
    clear hR k1 k2 ha2 ha3 ha4 ha5
    cases a1
    case false =>
      go_wp2_with fail
      go_ret
      exact ⟨by rw [HR.out]; rfl, HK3.out⟩
    go_wp2_with fail
    refine (HPO.out _).mono ?_
    rintro x w1 ⟨rfl, rfl⟩
    cases a2
    case false =>
      go_wp2_with fail
      go_ret
      exact ⟨by rw [HR.out]; rfl, HK3.out⟩
    go_wp2_with fail
    refine (HTO.out _).mono ?_
    rintro x w1 ⟨rfl, rfl⟩
    cases a3
    case false =>
      go_wp2_with fail
      go_ret
      exact ⟨by rw [HR.out]; rfl, HK3.out⟩
    cases a4
    case false =>
      go_wp2_with fail
      go_ret
      exact ⟨by rw [HR.out]; rfl, HK3.out⟩
    go_wp2_with fail
    refine (HTR.out _ HK3.out).mono ?_
    rintro x w6 ⟨rfl, hk⟩
    have hob := CObj.no HO3.out hk
    obtain ⟨m0, m1, m2, m3, m4, m5, m6, m7, m8, m9, m10, m11, m12, m13⟩ := hob.cells
    have HO6 := Lib.hid hob
    have HK6 := Lib.hid (HK3.out.and hk)
    clear hk hob
    go_wp2_with fail
    go_ret
    exact ⟨by rw [HR.out]; rfl, HK6.out⟩
  have d2 : (c.kind == 2) = false := by simpa using k2
  by_cases k3 : c.kind = 3
  case pos =>
    have d3 : (c.kind == 3) = true := by simpa using k3
    have hR : kdB c = ((c.makes == 0) && decide (0 < c.effs.length) && !c.effs.any itselfB && stillB c) := by unfold kdB; rw [if_neg k1, if_neg k2, if_pos (by omega)]
    obtain ⟨a1, ha1⟩ : ∃ b, (c.makes == 0) = b := ⟨_, rfl⟩
    rw [ha1] at hR
    obtain ⟨a2, ha2⟩ : ∃ b, decide (0 < c.effs.length) = b := ⟨_, rfl⟩
    rw [ha2] at hR
    rw [ha2] at HE1
    obtain ⟨a3, ha3⟩ : ∃ b, (c.effs.any itselfB) = b := ⟨_, rfl⟩
    rw [ha3] at hR
    rw [ha3] at HI
    obtain ⟨a4, ha4⟩ : ∃ b, stillB c = b := ⟨_, rfl⟩
    rw [ha4] at hR
    rw [ha4] at HS
    have HR := Lib.hid (HR2.out.trans hR)
    have he1 := HE1.out
    clear hR k1 k2 k3 ha3 ha4
    cases a1
    case false =>
      go_wp2_with fail
      go_ret
      exact ⟨by rw [HR.out]; rfl, HK3.out⟩
    cases a2
    case false =>
      go_wp2_with fail
      go_ret
      exact ⟨by rw [HR.out]; rfl, HK3.out⟩
    go_wp2_with fail
    refine (HI.out _ HK3.out).mono ?_
    rintro x w7 ⟨rfl, hk⟩
    have hob := CObj.no HO3.out hk
    obtain ⟨m0, m1, m2, m3, m4, m5, m6, m7, m8, m9, m10, m11, m12, m13⟩ := hob.cells
    have HO7 := Lib.hid hob
    have HK7 := Lib.hid (HK3.out.and hk)
    clear hk hob
    cases a3
    case true =>
      go_wp2_with fail
      go_ret
      exact ⟨by rw [HR.out]; rfl, HK7.out⟩
    go_wp2_with fail
    refine (HS.out _).mono ?_
    rintro x w8 ⟨rfl, hk⟩
    have hob := CObj.no HO7.out hk
    obtain ⟨m0, m1, m2, m3, m4, m5, m6, m7, m8, m9, m10, m11, m12, m13⟩ := hob.cells
    have HO8 := Lib.hid hob
    have HK8 := Lib.hid (HK7.out.and hk)
    clear hk hob
    go_wp2_with fail
    go_ret
    exact ⟨by rw [HR.out]; rfl, HK8.out⟩
  have d3 : (c.kind == 3) = false := by simpa using k3
  by_cases k4 : c.kind = 4
  case pos =>
    have d4 : (c.kind == 4) = true := by simpa using k4
    have hR : kdB c = ((c.makes == 0) && decide (0 < c.effs.length) && !c.effs.any itselfB && stillB c) := by unfold kdB; rw [if_neg k1, if_neg k2, if_pos (by omega)]
    obtain ⟨a1, ha1⟩ : ∃ b, (c.makes == 0) = b := ⟨_, rfl⟩
    rw [ha1] at hR
    obtain ⟨a2, ha2⟩ : ∃ b, decide (0 < c.effs.length) = b := ⟨_, rfl⟩
    rw [ha2] at hR
    rw [ha2] at HE1
    obtain ⟨a3, ha3⟩ : ∃ b, (c.effs.any itselfB) = b := ⟨_, rfl⟩
    rw [ha3] at hR
    rw [ha3] at HI
    obtain ⟨a4, ha4⟩ : ∃ b, stillB c = b := ⟨_, rfl⟩
    rw [ha4] at hR
    rw [ha4] at HS
    have HR := Lib.hid (HR2.out.trans hR)
    have he1 := HE1.out
    clear hR k1 k2 k3 k4 ha3 ha4
    cases a1
    case false =>
      go_wp2_with fail
      go_ret
      exact ⟨by rw [HR.out]; rfl, HK3.out⟩
    cases a2
    case false =>
      go_wp2_with fail
      go_ret
      exact ⟨by rw [HR.out]; rfl, HK3.out⟩
    go_wp2_with fail
    refine (HI.out _ HK3.out).mono ?_
    rintro x w9 ⟨rfl, hk⟩
    have hob := CObj.no HO3.out hk
    obtain ⟨m0, m1, m2, m3, m4, m5, m6, m7, m8, m9, m10, m11, m12, m13⟩ := hob.cells
    have HO9 := Lib.hid hob
    have HK9 := Lib.hid (HK3.out.and hk)
    clear hk hob
    cases a3
    case true =>
      go_wp2_with fail
      go_ret
      exact ⟨by rw [HR.out]; rfl, HK9.out⟩
    go_wp2_with fail
    refine (HS.out _).mono ?_
    rintro x w10 ⟨rfl, hk⟩
    have hob := CObj.no HO9.out hk
    obtain ⟨m0, m1, m2, m3, m4, m5, m6, m7, m8, m9, m10, m11, m12, m13⟩ := hob.cells
    have HO10 := Lib.hid hob
    have HK10 := Lib.hid (HK9.out.and hk)
    clear hk hob
    go_wp2_with fail
    go_ret
    exact ⟨by rw [HR.out]; rfl, HK10.out⟩
  have d4 : (c.kind == 4) = false := by simpa using k4
  have HR := Lib.hid (HR2.out.trans (show kdB c = false by unfold kdB; rw [if_neg k1, if_neg k2, if_neg (by omega)]))
  clear k1 k2 k3 k4
  go_wp2_with fail
  go_ret
  exact ⟨by rw [HR.out]; rfl, HK3.out⟩
end Go.Proofs.YtclgoilfclmibaaGreatDoor
