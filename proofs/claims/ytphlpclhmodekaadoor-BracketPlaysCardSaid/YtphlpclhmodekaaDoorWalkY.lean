/-
  Bracket, the document's model: fresh.
-/
import Derived.Test.YtphlpclhmodekaaDoorWalkX
set_option linter.unusedVariables false
set_option linter.unusedSimpArgs false
namespace Go.Proofs.YtphlpclhmodekaaDoor
open Go.RowKit Go.Zn
attribute [local go_sem] Oper.semAt_some

/-- a new model -/
def FreshPost (k E : Nat) (w0 : World) (e : Ending) (w' : World) : Prop :=
  ∃ g r cap, e = .returned (.pointer (some ⟨g, 0, none⟩)) ∧ w0.heap.size ≤ g ∧ w0.heap.size ≤ r ∧ MS k E (freshF k E) g r cap w' ∧ Kept No w0 w'
def neg1 (n : Nat) : List Value := List.replicate n (Value.int .i64 (-1))
theorem upTo_le {k E i : Nat} (hz : Sz k E) (m : Nat) : upTo k E i m ≤ 2 := by
  unfold upTo
  split
  · rw [freshF_eq hz]; split <;> omega
  · omega
/-- the row of decisions as it grows -/
def FRow (E S g : Nat) (w0 : World) (iv : Value) (wr : World) : Prop :=
  ∃ (i : Nat) (v : Value), iv = .int .i64 (i : Nat) ∧ i + 1 ≤ S ∧ wr.heap[g]? = some (.cells #[.int .i64 (E : Nat), .int .i64 (S : Nat), v] 54 (0, 0)) ∧ wr.ownsRow (g + 1) 3 1 v i (neg1 i) ∧ Kept No w0 wr
theorem FRow.end {k E S g i : Nat} {w0 wr : World} {v : Value} (hz : Sz k E) (hS : 2 ^ k = S) (hi : i = S - 1) (hh : wr.heap[g]? = some (.cells #[.int .i64 (E : Nat), .int .i64 (S : Nat), v] 54 (0, 0))) (hown : wr.ownsRow (g + 1) 3 1 v i (neg1 i)) : ∃ r cap, g < r ∧ MS k E (upTo k E 0) g r cap wr := by
  subst hi
  have h1 := pow_le' hz.one
  obtain ⟨r, cap, rfl, hr1, hr2⟩ := World.ownsRow.form hown (by omega)
  refine ⟨r, cap, by omega, ⟨hz, upTo_le hz, by rw [hS]; exact hh, fun i hi => ?_, fun i hi => World.ownsRow.frozenAt hown i, by omega⟩⟩
  rw [World.ownsRow.cellAt hown i (by omega), upTo_zero]
  unfold neg1
  rw [List.getElem?_replicate, if_pos (by omega)]
  rfl
theorem succ_in {i : Nat} (h : i ≤ 1000) : IntKind.i64.wrap ((i : Int) + 1) = (i : Int) + 1 := IntWalk.i64_in _ (by omega)
theorem pred_in {i : Nat} (h : i ≤ 1000) : IntKind.i64.wrap ((i : Int) - 1) = (i : Int) - 1 := IntWalk.i64_in _ (by omega)
theorem twice_in {i : Nat} (h : i ≤ 1000) : IntKind.i64.wrap (2 * (i : Int)) = 2 * (i : Int) := IntWalk.i64_in _ (by omega)
set_option maxRecDepth 100000 in
set_option maxHeartbeats 8000000 in
theorem fresh_any {k E : Nat} (hz : Sz k E) (w : World) : Calls Tryd.prog 18 #[.int .i64 (E : Nat)] w (FreshPost k E w) := by
  have hE2 : 2 ≤ E := by have := hz.lo; have := pow_le' hz.one; omega
  have hE64 : E ≤ 64 := by have := hz.hi; have := hz.le; omega
  have HE := Lib.hid (And.intro hE2 hE64)
  have HZ := Lib.hid hz
  clear hz hE2 hE64
  go_enter Tryd.func18, Tryd.ntmps18
  go_wp2_with fail
  go_loopw [] (fun wr => ∃ j : Nat, 1 ≤ j ∧ j ≤ 6 ∧ 2 ^ j < 2 * E ∧ wr.heap[w.heap.size]? = some (.cells #[.int .i64 (E : Nat), .int .i64 ((2 ^ j : Nat) : Int), .slice none 0 0] 54 (0, 0)) ∧ Kept No w wr) (fun wr => 64 - (match wr.cell? ⟨w.heap.size, 1, none⟩ with | some v => (intOf v).toNat | none => 0))
  case atStart => exact ⟨1, by decide, by decide, by have := HE.out; omega, heap_alloc_new w _, (Kept.refl No w).alloc _⟩
  case round =>
    obtain ⟨j, hj1, hj6, hjE, hb, hk⟩ := hrel
    have hb6 : 2 ^ j ≤ 64 := pow_le' hj6
    have hp := Nat.one_le_two_pow (n := j)
    obtain ⟨S, hS⟩ : ∃ S, 2 ^ j = S := ⟨_, rfl⟩
    rw [hS] at hb hjE hb6 hp
    have c1 : wr.cell? ⟨w.heap.size, 1, none⟩ = some (.int .i64 (S : Nat)) := by rw [obj_cell hb 1]; rfl
    have y1 := obj_free hb 1
    have HB := Lib.hid hb
    have HK := Lib.hid hk
    have HS := Lib.hid hS
    have HJ := Lib.hid (And.intro hj1 (And.intro hj6 hjE))
    have q3 := twice_in (i := S) (by omega)
    clear hb hk hS hj1 hj6 hjE
    by_cases hlt : S < E
    · have q4 : decide (S < E) = true := decide_eq_true hlt
      have HLT := Lib.hid hlt
      have hle : S < 64 := by have := HE.out; omega
      have HP := Lib.hid (show (wr.setCell ⟨w.heap.size, 1, none⟩ (.int .i64 (2 * (S : Int)))).heap[w.heap.size]? = some (.cells #[.int .i64 (E : Nat), .int .i64 ((2 * S : Nat) : Int), .slice none 0 0] 54 (0, 0)) by
        rw [obj_store HB.out 1 _]
        rfl)
      clear hlt
      go_wp2_with fail
      have hc2 := obj_cell HP.out 1
      obtain ⟨a1, a2, a3⟩ := HJ.out
      have hS2 : 2 ^ (j + 1) = 2 * S := by have := HS.out; omega
      refine ⟨⟨j + 1, by omega, ?_, by rw [hS2]; have := HLT.out; omega, by rw [hS2]; exact HP.out, HK.out.setCell (fun hk => by simp at hk) _⟩, ?_⟩
      · by_cases e : j = 6
        · rw [e] at hS2; omega
        · omega
      · rw [hc2, c1]
        show 64 - (((2 * S : Nat) : Int)).toNat < 64 - ((S : Nat) : Int).toNat
        omega
    · have q4 : decide (S < E) = false := decide_eq_false hlt
      obtain ⟨a1, a2, a3⟩ := HJ.out
      have hjk : j = k := sz_unique ⟨a1, a2, by rw [HS.out]; exact a3, by rw [HS.out]; omega⟩ HZ.out
      subst hjk
      have q0 := pred_in (i := S) (by omega)
      obtain ⟨G, hG⟩ : ∃ G, w.heap.size = G := ⟨_, rfl⟩
      have hb2 := HB.out
      rw [hG] at hb2
      have HB2 := Lib.hid hb2
      have HG := Lib.hid hG
      rw [hG] at c1
      have hglt := obj_lt hb2
      clear hlt a1 a2 a3 hb2 y1
      go_wp2_with fail
      clear c1
      try rw [hG]
      clear hG
      go_loopw [4] (fun iv wz => FRow E S G w iv wz) (fun iv _ => S - (intOf iv).toNat)
      case atStart => exact ⟨0, .slice none 0 0, rfl, by omega, HB2.out, World.ownsRow_nil _ _ _ _, HK.out⟩
      case round =>
        obtain ⟨i, v, rfl, hi, hb, hown, hk⟩ := hrel
        obtain ⟨ad, cp, rfl⟩ := owned_slice hown
        have c1 : wr.cell? ⟨G, 1, none⟩ = some (.int .i64 (S : Nat)) := by rw [obj_cell hb 1]; rfl
        have c2 : wr.cell? ⟨G, 2, none⟩ = some (.slice ad i cp) := by rw [obj_cell hb 2]; rfl
        have HW := Lib.hid hown
        have HBR := Lib.hid hb
        have HKR := Lib.hid hk
        by_cases hlt : i + 1 < S
        · have d1 : decide ((i : Int) < (S : Int) - 1) = true := decide_eq_true (by omega)
          have q5 := succ_in (i := i) (by omega)
          have HLT := Lib.hid hlt
          have HO1 := Lib.hid (hown.alloc (.cells #[.int .i64 (-1)] 3))
          have HS1 := Lib.hid (show G + 1 ≤ (wr.alloc (.cells #[.int .i64 (-1)] 3)).heap.size by have := obj_lt hb; simp; omega)
          have HB1 := Lib.hid (show (i + 1) * 8 ≤ 140737488355328 by omega)
          clear hb hown hk hlt hi
          go_wp2_with (at_builtin; refine wpList_append_rd rfl rfl rfl rfl ei28 HO1.out (rd_new1 wr (.int .i64 (-1)) 3) (by intro u hu; simp at hu; rw [hu]; rfl) HB1.out HS1.out ?_; intro v2 w2 hown2 hg2 _; obtain ⟨ad2, cp2, rfl⟩ := owned_slice hown2; have HO2 := Lib.hid hown2; have HG2 := Lib.hid (show w2.heap[G]? = some (.cells #[.int .i64 (E : Nat), .int .i64 (S : Nat), .slice ad i cp] 54 (0, 0)) from (hg2.block G (by have := obj_lt HBR.out; simp; omega) (fun e => by have := (HO1.out.lt G e.symm).1; omega)).trans (obj_alloc HBR.out _)); have HK2 := Lib.hid (show Kept No w w2 from (HKR.out.alloc _).grown hg2 (fun k e hlt => by have := (HO1.out.lt k e).1; have := HG.out; omega)); have y2 : w2.frozen? ⟨G, 2, none⟩ = false := obj_free HG2.out 2; have c22 : w2.cell? ⟨G, 2, none⟩ = some (.slice ad i cp) := (by rw [obj_cell HG2.out 2]; rfl); clear hown2 hg2)
          have hlt := HLT.out
          refine ⟨⟨i + 1, .slice ad2 (i + 1) cp2, by go_num, by omega, ?_, ?_, HK2.out.setCell (fun h => by have := HG.out; simp at h; omega) _⟩, by simp [intOf]; omega⟩
          · rw [obj_store HG2.out 2 _]; rfl
          · have hs : neg1 (i + 1) = neg1 i ++ [.int .i64 (-1)] := by unfold neg1; rw [List.replicate_succ']
            rw [hs]
            exact owned_kept HO2.out (Kept.setCell (S := fun x => x = G) (Kept.refl _ w2) (fun _ => rfl) _) (fun b hb he h => by have := (HO2.out.lt b he).1; omega)
        · have d1 : decide ((i : Int) < (S : Int) - 1) = false := decide_eq_false (by omega)
          have hiS : i = S - 1 := by omega
          obtain ⟨r, cap, hgr, hms⟩ := FRow.end (w0 := w) (g := G) HZ.out HS.out hiS hb hown
          have HMS := Lib.hid hms
          have HGR := Lib.hid hgr
          obtain ⟨H, hH, hH1, hH2, _⟩ := HZ.out.pow
          have hSH : S = 2 * H := by have := HS.out; omega
          have HH := Lib.hid (And.intro hH (And.intro hH1 hSH))
          have q6 := half1 (H := H) (Nat.le_trans hH2 (by decide))
          have q7 := half2 (H := H) (Nat.le_trans hH2 (by decide))
          have c1' : wr.cell? ⟨G, 1, none⟩ = some (.int .i64 ((2 * H : Nat) : Int)) := by rw [c1, hSH]
          have hH32 := hH2
          clear hb hown hk hlt hi hiS hms hgr hH hSH c2 HW HBR
          go_wp2_with fail
          go_loopw [5] (fun iv wz => ∃ c : Nat, iv = .int .i64 (c : Nat) ∧ c ≤ H ∧ MS j E (upTo j E c) G r cap wz ∧ Kept No w wz) (fun iv _ => H - (intOf iv).toNat)
          case atStart => exact ⟨0, rfl, Nat.zero_le _, HMS.out, HKR.out⟩
          case round =>
            clear HMS HKR
            obtain ⟨c, rfl, hc, hm, hk⟩ := hrel
            have c1' : wr.cell? ⟨G, 1, none⟩ = some (.int .i64 ((2 * H : Nat) : Int)) := by rw [hm.size, HH.out.1]
            have HMR := Lib.hid hm
            have HKR := Lib.hid hk
            by_cases hlt : c < H
            · have d1 : decide (c < H) = true := decide_eq_true hlt
              have q5 := succ_in (i := c) (by omega)
              have hc1 : c + 1 < 2 ^ j := by have := HH.out; omega
              have h2 : 2 * c < 2 ^ j := by have := HH.out; omega
              have hse := seatsM_any hm hc1
              rw [seats_first _ h2] at hse
              have HSE := Lib.hid hse
              have t1 : (ent j E (2 * c) == -2) = false := by have := ent_even HZ.out c; simp; omega
              have HC1 := Lib.hid (And.intro hc1 h2)
              have HLT := Lib.hid hlt
              have HROW := Lib.hid (fun w (hM : MS j E (upTo j E c) G r cap w) => (show w.cell? ⟨G, 2, none⟩ = some (.slice (some ⟨r, 0, none⟩) (S - 1) cap) by rw [← HS.out]; exact hM.row))
              have hb0 : (0 : Int) ≤ (c : Int) := by omega
              have hb1 : (c : Int) < ((S - 1 : Nat) : Int) := by have := HH.out.2.2; omega
              have hb2 : c < S - 1 := by have := HH.out.2.2; omega
              clear hm hk hc hlt hse hc1 h2
              cases hby : byeF j E c
              · have t2 : (ent j E (2 * c + 1) == -2) = false := by
                  have : ¬ ent j E (2 * c + 1) = -2 := fun e => by
                    have := (byeF_iff HZ.out c).mpr ⟨HC1.out.2, e⟩
                    rw [hby] at this
                    cases this
                  simpa using this
                have HU := Lib.hid (upTo_not HZ.out hby)
                clear hby
                go_wp2_with fail
                refine HSE.out.mono ?_
                rintro e w2 ⟨q, rfl, hq, hcell, hk⟩
                have e0 := obj_cell hcell 0
                have e1 := obj_cell hcell 1
                have HM2 := Lib.hid (HMR.out.no hk)
                have HK2 := Lib.hid (HKR.out.and hk)
                clear hcell hk hq
                go_wp2_with fail
                have hlt := HLT.out
                exact ⟨⟨c + 1, by go_num, by omega, by rw [HU.out]; exact HM2.out, HK2.out⟩, by simp [intOf]; omega⟩
              · have t2 : (ent j E (2 * c + 1) == -2) = true := by
                  have := ((byeF_iff HZ.out c).mp hby).2
                  simpa using this
                have HU := Lib.hid (upTo_bye HZ.out hby)
                clear hby
                go_wp2_with fail
                refine HSE.out.mono ?_
                rintro e w2 ⟨q, rfl, hq, hcell, hk⟩
                have e0 := obj_cell hcell 0
                have e1 := obj_cell hcell 1
                have HM2 := Lib.hid (HMR.out.no hk)
                have HK2 := Lib.hid (HKR.out.and hk)
                have cr := HROW.out _ HM2.out
                have cm := HM2.out.won c HC1.out.1
                have ym := HM2.out.fr c HC1.out.1
                have HPU := Lib.hid (HM2.out.put (v := 1) HC1.out.1 (by decide))
                clear hcell hk hq
                go_wp2_with fail
                have hlt := HLT.out
                exact ⟨⟨c + 1, by go_num, by omega, by rw [HU.out]; exact HPU.out, HK2.out.setCell (fun h => by have := HG.out; have := HGR.out; simp at h; omega) _⟩, by simp [intOf]; omega⟩
            · have d1 : decide (c < H) = false := decide_eq_false hlt
              have hcH : c = H := by omega
              have hmf := hm
              rw [upTo_all HZ.out (show 2 * c = 2 ^ j by have := HH.out; omega)] at hmf
              have HMF := Lib.hid hmf
              clear hm hk hc hlt hcH hmf
              go_wp2_with fail
              go_ret
              exact ⟨G, r, cap, rfl, by have := HG.out; omega, by have := HG.out; have := HGR.out; omega, HMF.out, HKR.out⟩
end Go.Proofs.YtphlpclhmodekaaDoor
