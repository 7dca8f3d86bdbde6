/-
  Bracket: the walk of BracketReads.
-/
import Derived.Test.YtphlpclhmodekaaDoorWalk5
import Derived.Deep.Cut
import Derived.Deep.CutBlock
set_option linter.unusedVariables false
set_option linter.unusedSimpArgs false
namespace Go.Proofs.YtphlpclhmodekaaDoor
open Go.RowKit Go.Zn
attribute [local go_sem] Oper.semAt_some

theorem str_at {l : List UInt8} {j : Nat} (h : j < (strOf l).size) : (strOf l)[j] = chAt l j := by
  have hj : j < l.length := by rw [← strOf_size]; exact h
  unfold chAt
  rw [List.getD_eq_getElem?_getD, List.getElem?_eq_getElem hj]
  simp [strOf, ByteArray.getElem_eq_getElem_data]
def HdRel (l : List UInt8) (w0 : World) (nv iv : Value) (wr : World) : Prop :=
  ∃ i : Nat, nv = .int .i64 (hdV l i : Nat) ∧ iv = .int .i64 (i : Nat) ∧ Hd l i ∧ wr = w0
def HdOut (l : List UInt8) (w0 : World) (nv iv : Value) (wr : World) : Prop :=
  ∃ i : Nat, nv = .int .i64 (hdV l i : Nat) ∧ iv = .int .i64 (i : Nat) ∧ Hd l i ∧ HdEnd l i ∧ wr = w0
def RmRel (k n S i g r cap : Nat) (l : List UInt8) (w0 : World) (jv : Value) (wr : World) : Prop :=
  ∃ j : Nat, jv = .int .i64 (j : Nat) ∧ j + 1 ≤ S ∧ MS k n (rdN k n (fun x => chAt l (i + 1 + x)) j) g r cap wr ∧ Kept (fun i => i = r) w0 wr
def RmOut (k n S i g r cap : Nat) (l : List UInt8) (w0 : World) (jv : Value) (wr : World) : Prop :=
  ∃ j : Nat, jv = .int .i64 (j : Nat) ∧ j + 1 ≤ S ∧ (j + 1 = S ∨ l.length ≤ i + 1 + j) ∧ MS k n (rdN k n (fun x => chAt l (i + 1 + x)) j) g r cap wr ∧ Kept (fun i => i = r) w0 wr
/-- a character is reported to the model -/
theorem reportM_char {k E : Nat} {f : Nat → Nat} {g r cap : Nat} {w : World} (hM : MS k E f g r cap w) {m : Nat} (hm : m + 1 < 2 ^ k) {x : UInt8} (hx : x = 48 ∨ x = 49) : Calls Tryd.prog 24 #[.pointer (some ⟨g, 0, none⟩), .int .i64 (m : Nat), .int .i64 ((x.toNat : Int) - 48)] w fun e w' => (∃ v, e = .returned (.int .i64 v)) ∧ MS k E (readC k E f m x) g r cap w' ∧ Kept (fun i => i = r) w w' := by
  unfold readC
  cases ho : openF k E f m
  · have hs : (x.toNat : Int) - 48 = 0 ∨ (x.toNat : Int) - 48 = 1 := by rcases hx with rfl | rfl <;> decide
    rw [if_neg (by simp)]
    exact (reportM_shut hM hs hm ho).mono fun e w' ⟨he, hk⟩ => ⟨⟨_, he⟩, hM.no hk, hk.any⟩
  · rw [if_pos ⟨hx, rfl⟩]
    rcases hx with rfl | rfl
    · exact (reportM_open hM hm (s := 0) (by decide) ho).mono fun e w' ⟨he, hb, hk⟩ => ⟨⟨_, he⟩, hb, hk⟩
    · exact (reportM_open hM hm (s := 1) (by decide) ho).mono fun e w' ⟨he, hb, hk⟩ => ⟨⟨_, he⟩, hb, hk⟩
theorem readC_other {k E : Nat} {f : Nat → Nat} {m : Nat} {x : UInt8} (h0 : x ≠ 48) (h1 : x ≠ 49) : readC k E f m x = f := by
  unfold readC
  rw [if_neg]
  rintro ⟨h | h, _⟩
  · exact h0 h
  · exact h1 h
theorem reads_long {s : ByteArray} (h : 100 < s.size) (hmax : s.size ≤ maxLen) (w : World) : Calls Tryd.prog 6 #[.string s] w fun e w' => e = .returned (.bool true) ∧ Kept No w w' := by
  have HKN := Lib.hid (known_any w)
  have q1 : decide (100 < s.size) = true := decide_eq_true h
  have q1' : decide ((100 : Int) < (s.size : Int)) = true := decide_eq_true (by omega)
  unfold maxLen at hmax
  clear h
  go_enter Tryd.func6, Tryd.ntmps6
  go_wp2_with fail
  refine HKN.out.mono ?_
  rintro e w1 ⟨rfl, hk⟩
  have HK := Lib.hid hk
  clear hk
  go_wp2_with fail
  go_ret
  exact ⟨rfl, HK.out⟩
set_option maxRecDepth 100000 in
set_option maxHeartbeats 8000000 in
theorem reads_yes {k0 E0 : Nat} {f0 : Nat → Nat} {l : List UInt8} (hl : l.length ≤ 100) (hz : Sz k0 E0) (hwf : WF k0 E0 f0) (ht : textF k0 E0 f0 = l) {w : World} (hE : Errs w) : Calls Tryd.prog 6 #[.string (strOf l)] w fun e w' => e = .returned (.bool true) ∧ Kept No w w' := by
  have HP := Lib.hid (show Calls Tryd.prog 23 #[.string (strOf l)] w fun e w' => (∃ b, e = .returned (.tuple #[.pointer (some ⟨b, 0, none⟩), .int .i64 0]) ∧ w.heap.size ≤ b ∧ BS k0 E0 f0 b w') ∧ Kept No w w' from
    (parse_any (show l.length ≤ 1000 by omega) hE).mono fun e w' ⟨hk, h⟩ => ⟨by
      rcases h with ⟨k, E, f, b, ht2, hb, hB, he⟩ | ⟨_, hno⟩
      · obtain ⟨rfl, rfl, rfl⟩ := text_inj hB.z hB.wf hz hwf (ht.trans ht2.symm)
        exact ⟨b, he, hb, hB⟩
      · exact (hno k0 E0 f0 hz hwf ht).elim, hk⟩)
  have hsz := strOf_size l
  have HKN := Lib.hid (fun w => known_any w)
  have HFR := Lib.hid (fun (k E : Nat) (hz : Sz k E) w => fresh_any hz w)
  have HZ := Lib.hid hz
  have HWF := Lib.hid hwf
  have HT := Lib.hid ht
  have HL := Lib.hid hl
  clear hE hz hwf ht
  go_enter Tryd.func6, Tryd.ntmps6
  go_wp2_with fail
  refine HP.out.mono ?_
  rintro e w1 ⟨⟨b, rfl, hwb, hb⟩, hk⟩
  have HB1 := Lib.hid hb
  have HK1 := Lib.hid hk
  clear hk hb hwb
  go_upto_block 0 with (fail)
  go_cut [5, 6] from 19 (fun nv iv wx => HdOut l w1 nv iv wx)
  case first =>
    go_wp2_with fail
    go_loopw [5, 6] (fun nv iv wr => HdRel l w1 nv iv wr) (fun _ iv _ => 3 - (intOf iv).toNat)
    case atStart => exact ⟨0, rfl, rfl, ⟨by decide, Nat.zero_le _, fun j hj => by omega⟩, rfl⟩
    case round =>
      obtain ⟨i, rfl, rfl, hd, rfl⟩ := hrel
      have h3 := hd.three
      have hil := hd.len
      have hv := hd.lt
      have hv2 : hdV l i < 1000 := Nat.lt_of_lt_of_le hv (Nat.pow_le_pow_right (by decide) h3 : 10 ^ i ≤ 10 ^ 3)
      have HD := Lib.hid hd
      obtain ⟨v, hvv⟩ : ∃ v, hdV l i = v := ⟨_, rfl⟩
      rw [hvv] at hv2 ⊢
      have HV := Lib.hid hvv
      clear hd hv hvv
      by_cases hi : i < l.length
      · have hi2 : i < (strOf l).size := by omega
        have hx := str_at hi2
        obtain ⟨x, hxx⟩ : ∃ x, chAt l i = x := ⟨_, rfl⟩
        rw [hxx] at hx
        have HX := Lib.hid hxx
        have d1 : decide (i < l.length) = true := decide_eq_true hi
        have d1' : decide ((i : Int) < ((l.length : Nat) : Int)) = true := decide_eq_true (by omega)
        have HI := Lib.hid hi
        clear hxx hi
        by_cases h3i : i < 3
        · have d2 : decide (i < 3) = true := decide_eq_true h3i
          have d2' : decide ((i : Int) < 3) = true := decide_eq_true (by omega)
          by_cases hlo : 48 ≤ x.toNat
          · have d3 : decide (48 ≤ x.toNat) = true := decide_eq_true hlo
            have d3' : decide ((48 : Int) ≤ (x.toNat : Int)) = true := decide_eq_true (by omega)
            by_cases hhi : x.toNat ≤ 57
            · have d4 : decide (x.toNat ≤ 57) = true := decide_eq_true hhi
              have d4' : decide ((x.toNat : Int) ≤ 57) = true := decide_eq_true (by omega)
              have HU := Lib.hid (HD.out.up HI.out h3i (by rw [HX.out]; exact (isD_iff x).mpr ⟨hlo, hhi⟩))
              have w1 : IntKind.i64.wrap (10 * (v : Int)) = 10 * v := IntWalk.i64_in _ (by omega)
              have w2 : IntKind.u8.wrap ((x.toNat : Int) - 48) = (x.toNat : Int) - 48 := by rw [IntKind.wrap_u8]; omega
              have w3 : IntKind.i64.wrap ((x.toNat : Int) - 48) = (x.toNat : Int) - 48 := IntWalk.i64_in _ (by omega)
              have w4 : IntKind.i64.wrap (10 * (v : Int) + ((x.toNat : Int) - 48)) = 10 * (v : Int) + ((x.toNat : Int) - 48) := IntWalk.i64_in _ (by omega)
              have w5 : IntKind.i64.wrap ((i : Int) + 1) = (i : Int) + 1 := IntWalk.i64_in _ (by omega)
              have HVN := Lib.hid (show 10 * (v : Int) + ((x.toNat : Int) - 48) = ((hdV l (i + 1) : Nat) : Int) by
                show _ = ((10 * hdV l i + ((chAt l i).toNat - 48) : Nat) : Int)
                rw [HV.out, HX.out]
                omega)
              clear hlo hhi
              go_wp2_with fail
              exact ⟨⟨i + 1, by rw [HVN.out], by go_num, HU.out, rfl⟩, by simp [intOf]; omega⟩
            · have d4 : decide (x.toNat ≤ 57) = false := decide_eq_false hhi
              have d4' : decide ((x.toNat : Int) ≤ 57) = false := decide_eq_false (by omega)
              have HEN := Lib.hid (show HdEnd l i from .inr (.inr (by rw [HX.out, Bool.eq_false_iff, ne_eq, isD_iff]; omega)))
              clear hlo hhi
              go_wp2_with fail
              go_meet
              exact ⟨i, by rw [HV.out], rfl, HD.out, HEN.out, rfl⟩
          · have d3 : decide (48 ≤ x.toNat) = false := decide_eq_false hlo
            have d3' : decide ((48 : Int) ≤ (x.toNat : Int)) = false := decide_eq_false (by omega)
            have HEN := Lib.hid (show HdEnd l i from .inr (.inr (by rw [HX.out, Bool.eq_false_iff, ne_eq, isD_iff]; omega)))
            clear hlo
            go_wp2_with fail
            go_meet
            exact ⟨i, by rw [HV.out], rfl, HD.out, HEN.out, rfl⟩
        · have d2 : decide (i < 3) = false := decide_eq_false h3i
          have d2' : decide ((i : Int) < 3) = false := decide_eq_false (by omega)
          have HEN := Lib.hid (show HdEnd l i from .inr (.inl (by omega)))
          clear h3i
          go_wp2_with fail
          go_meet
          exact ⟨i, by rw [HV.out], rfl, HD.out, HEN.out, rfl⟩
      · have d1 : decide (i < l.length) = false := decide_eq_false hi
        have d1' : decide ((i : Int) < ((l.length : Nat) : Int)) = false := decide_eq_false (by omega)
        have HEN := Lib.hid (show HdEnd l i from .inl (by omega))
        clear hi
        go_wp2_with fail
        go_meet
        exact ⟨i, by rw [HV.out], rfl, HD.out, HEN.out, rfl⟩
  case rest =>
    obtain ⟨i, rfl, rfl, hd, he, rfl⟩ := hcut
    have h3 := hd.three
    obtain ⟨n, hn⟩ : ∃ n, hdV l i = n := ⟨_, rfl⟩
    obtain ⟨rfl, hi⟩ : n = E0 ∧ i = (Lib.decDigits E0).length := by
      have := HT.out
      subst this
      obtain ⟨a, b⟩ := hd_text f0 HZ.out.e64.2 hd he
      exact ⟨hn.symm.trans a, b⟩
    have HD := Lib.hid hd
    have HEN := Lib.hid he
    have HN := Lib.hid hn
    rw [hn]
    have hn2 : n < 1000 := by rw [← hn]; exact Nat.lt_of_lt_of_le hd.lt (Nat.pow_le_pow_right (by decide) h3 : 10 ^ i ≤ 10 ^ 3)
    have hb : ¬ (n < 2 ∨ 64 < n) := by have := HZ.out.e64; omega
    have hle := HZ.out.le
    clear hd he hn hi
    have d1 : decide (n < 2) = false := decide_eq_false (by omega)
    have d1' : decide ((n : Int) < 2) = false := decide_eq_false (by omega)
    have d2 : decide (64 < n) = false := decide_eq_false (by omega)
    have d2' : decide (64 < (n : Int)) = false := decide_eq_false (by omega)
    clear hb
    go_wp2_with fail
    refine (HFR.out _ _ HZ.out _).mono ?_
    rintro e w2 ⟨g, r, cap, rfl, hg, hr, hms, hk⟩
    have HK2 := Lib.hid (HK1.out.and hk)
    have HM2 := Lib.hid hms
    have HR2 := Lib.hid (show w.heap.size ≤ r by have := HK1.out.size; omega)
    have HBR := Lib.hid (show b < r by have := HB1.out.lt; omega)
    have HB2 := Lib.hid (HB1.out.to hk (not_no _))
    have hp := Nat.one_le_two_pow (n := k0)
    obtain ⟨S, hS⟩ : ∃ S, 2 ^ k0 = S := ⟨_, rfl⟩
    have HRW := Lib.hid (fun f w (hM : MS k0 n f g r cap w) => (show w.cell? ⟨g, 2, none⟩ = some (.slice (some ⟨r, 0, none⟩) (S - 1) cap) by rw [← hS]; exact hM.row))
    have HS := Lib.hid hS
    rw [hS] at hle hp
    have hl := HL.out
    clear hk hms hg hr hS
    go_upto_block 2 with (fail)
    go_cut [8] from 66 (fun jv wx => RmOut k0 n S i g r cap l w2 jv wx)
    case first =>
      go_wp2_with fail
      go_loopw [8] (fun jv wr => RmRel k0 n S i g r cap l w2 jv wr) (fun jv _ => S - (intOf jv).toNat)
      case atStart => exact ⟨0, rfl, by omega, HM2.out, Kept.refl _ _⟩
      case round =>
        obtain ⟨j, rfl, hj, hm, hk⟩ := hrel
        have HMJ := Lib.hid hm
        have HKJ := Lib.hid hk
        have cr := HRW.out _ _ hm
        clear hm hk
        by_cases hlt : j + 1 < S
        · have e1 : decide (j < S - 1) = true := decide_eq_true (by omega)
          have e1' : decide ((j : Int) < ((S - 1 : Nat) : Int)) = true := decide_eq_true (by omega)
          have w1 : IntKind.i64.wrap ((i : Int) + 1) = (i : Int) + 1 := IntWalk.i64_in _ (by omega)
          have w2 : IntKind.i64.wrap ((i : Int) + 1 + (j : Int)) = (i : Int) + 1 + (j : Int) := IntWalk.i64_in _ (by omega)
          have w3 : IntKind.i64.wrap ((j : Int) + 1) = (j : Int) + 1 := IntWalk.i64_in _ (by omega)
          by_cases hin : i + 1 + j < l.length
          · have e2 : decide ((i : Int) + 1 + (j : Int) < ((l.length : Nat) : Int)) = true := decide_eq_true (by omega)
            have hi2 : i + 1 + j < (strOf l).size := by omega
            have hx := str_at hi2
            obtain ⟨x, hxx⟩ : ∃ x, chAt l (i + 1 + j) = x := ⟨_, rfl⟩
            rw [hxx] at hx
            have HNX := Lib.hid (show rdN k0 n (fun x => chAt l (i + 1 + x)) (j + 1) = readC k0 n (rdN k0 n (fun x => chAt l (i + 1 + x)) j) j x by rw [← hxx]; rfl)
            have HJ := Lib.hid hlt
            have HRC := Lib.hid (fun h : x = 48 ∨ x = 49 => reportM_char HMJ.out (m := j) (by rw [HS.out]; exact hlt) h)
            have HRN := Lib.hid (fun (h0 : x ≠ 48) (h1 : x ≠ 49) => (readC_other h0 h1 : readC k0 n (rdN k0 n (fun x => chAt l (i + 1 + x)) j) j x = _))
            have hx255 : x.toNat < 256 := x.toNat_lt
            clear hxx hlt
            by_cases h0 : x = 48
            · subst h0
              have HRC2 := Lib.hid (show Calls Tryd.prog 24 #[.pointer (some ⟨g, 0, none⟩), .int .i64 (j : Nat), .int .i64 0] wr fun e w' => (∃ v, e = .returned (.int .i64 v)) ∧ MS k0 n (readC k0 n (rdN k0 n (fun x => chAt l (i + 1 + x)) j) j 48) g r cap w' ∧ Kept (fun i => i = r) wr w' from HRC.out (.inl rfl))
              clear HRC HRN
              go_wp2_with fail
              refine HRC2.out.mono ?_
              rintro e w3 ⟨⟨v, rfl⟩, hm3, hk3⟩
              have HM3 := Lib.hid hm3
              have HK3 := Lib.hid (HKJ.out.and hk3)
              clear hm3 hk3
              go_wp2_with fail
              have hJ := HJ.out
              exact ⟨⟨j + 1, by go_num, by omega, by rw [HNX.out]; exact HM3.out, HK3.out⟩, by simp [intOf]; omega⟩
            · by_cases h1 : x = 49
              · subst h1
                have HRC2 := Lib.hid (show Calls Tryd.prog 24 #[.pointer (some ⟨g, 0, none⟩), .int .i64 (j : Nat), .int .i64 1] wr fun e w' => (∃ v, e = .returned (.int .i64 v)) ∧ MS k0 n (readC k0 n (rdN k0 n (fun x => chAt l (i + 1 + x)) j) j 49) g r cap w' ∧ Kept (fun i => i = r) wr w' from HRC.out (.inr rfl))
                clear HRC HRN h0
                go_wp2_with fail
                refine HRC2.out.mono ?_
                rintro e w3 ⟨⟨v, rfl⟩, hm3, hk3⟩
                have HM3 := Lib.hid hm3
                have HK3 := Lib.hid (HKJ.out.and hk3)
                clear hm3 hk3
                go_wp2_with fail
                have hJ := HJ.out
                exact ⟨⟨j + 1, by go_num, by omega, by rw [HNX.out]; exact HM3.out, HK3.out⟩, by simp [intOf]; omega⟩
              · have HRN2 := Lib.hid (HRN.out h0 h1)
                have hx0 : ¬ x.toNat = 48 := fun e => h0 (UInt8.toNat.inj e)
                have hx1 : ¬ x.toNat = 49 := fun e => h1 (UInt8.toNat.inj e)
                have e3 : ((x.toNat : Int) == 48) = false := by simp; omega
                have e4 : ((x.toNat : Int) == 49) = false := by simp; omega
                clear HRC HRN h0 h1
                go_wp2_with fail
                have hJ := HJ.out
                exact ⟨⟨j + 1, by go_num, by omega, by rw [HNX.out, HRN2.out]; exact HMJ.out, HKJ.out⟩, by simp [intOf]; omega⟩
          · have e2 : decide ((i : Int) + 1 + (j : Int) < ((l.length : Nat) : Int)) = false := decide_eq_false (by omega)
            have HJ := Lib.hid (And.intro hj (show l.length ≤ i + 1 + j by omega))
            clear hlt hin
            go_wp2_with fail
            go_meet
            exact ⟨j, rfl, HJ.out.1, .inr HJ.out.2, HMJ.out, HKJ.out⟩
        · have e1 : decide (j < S - 1) = false := decide_eq_false (by omega)
          have e1' : decide ((j : Int) < ((S - 1 : Nat) : Int)) = false := decide_eq_false (by omega)
          have HJ := Lib.hid (And.intro hj (show j + 1 = S by omega))
          clear hlt
          go_wp2_with fail
          go_meet
          exact ⟨j, rfl, HJ.out.1, .inl HJ.out.2, HMJ.out, HKJ.out⟩
    case rest =>
      obtain ⟨j, rfl, hj, hje, hm, hk⟩ := hcut
      obtain ⟨f, hf⟩ : ∃ f, rdN k0 n (fun x => chAt l (i + 1 + x)) j = f := ⟨_, rfl⟩
      have hw : WF k0 n f := by
        rw [← hf]
        exact rdN_wf HZ.out _ j (by rw [HS.out]; exact hj)
      have hff : f = f0 := by
        obtain ⟨_, _, h⟩ := law_read HZ.out HWF.out HT.out HD.out HEN.out HZ.out HN.out (m := j) (by rw [HS.out]; exact hj) (by rw [HS.out]; exact hje)
        exact hf.symm.trans h
      have htx : textF k0 n f = l := by rw [hff]; exact HT.out
      rw [hf] at hm
      have HTM := Lib.hid (textM_any hm hw)
      have HAS := Lib.hid (show AS k0 n f b g r cap _ from ⟨by rw [hff]; exact HB2.out.to hk (fun e => by have := HBR.out; omega), hm⟩)
      have HK3 := Lib.hid (HK2.out.new hk (fun i hi => hi ▸ HR2.out))
      have e2 : strOf (textF k0 n f) = strOf l := by rw [htx]
      clear hm hk hw hf hff htx hj hje
      go_wp2_with fail
      refine HTM.out.mono ?_
      rintro e w4 ⟨rfl, hk⟩
      have HA4 := Lib.hid (HAS.out.no hk)
      have HK4 := Lib.hid (HK3.out.and hk)
      clear hk
      rw [e2]
      go_wp2_with fail
      refine (alike_any HA4.out).mono ?_
      rintro e w5 ⟨rfl, hk⟩
      have HK5 := Lib.hid (HK4.out.and hk)
      clear hk
      go_wp2_with fail
      refine (HKN.out _).mono ?_
      rintro e w6 ⟨rfl, hk⟩
      have HK6 := Lib.hid (HK5.out.and hk)
      clear hk
      go_wp2_with fail
      go_ret
      exact ⟨rfl, HK6.out⟩
set_option maxRecDepth 100000 in
set_option maxHeartbeats 8000000 in
theorem reads_no {l : List UInt8} (hl : l.length ≤ 100) (hno : ∀ k E f, Sz k E → WF k E f → textF k E f ≠ l) {w : World} (hE : Errs w) : Calls Tryd.prog 6 #[.string (strOf l)] w fun e w' => e = .returned (.bool true) ∧ Kept No w w' := by
  have HP := Lib.hid (show Calls Tryd.prog 23 #[.string (strOf l)] w fun e w' => e = .returned (.tuple #[.pointer none, .int .i64 6]) ∧ Kept No w w' from
    (parse_any (show l.length ≤ 1000 by omega) hE).mono fun e w' ⟨hk, h⟩ => ⟨by
      rcases h with ⟨k, E, f, b, ht2, hb, hB, he⟩ | ⟨he, _⟩
      · exact (hno k E f hB.z hB.wf ht2).elim
      · exact he, hk⟩)
  have HNO := Lib.hid hno
  have hsz := strOf_size l
  have HKN := Lib.hid (fun w => known_any w)
  have HFR := Lib.hid (fun (k E : Nat) (hz : Sz k E) w => fresh_any hz w)
  have HL := Lib.hid hl
  clear hE hno
  go_enter Tryd.func6, Tryd.ntmps6
  go_wp2_with fail
  refine HP.out.mono ?_
  rintro e w1 ⟨rfl, hk⟩
  have HK1 := Lib.hid hk
  clear hk
  go_upto_block 0 with (fail)
  go_cut [5, 6] from 19 (fun nv iv wx => HdOut l w1 nv iv wx)
  case first =>
    go_wp2_with fail
    go_loopw [5, 6] (fun nv iv wr => HdRel l w1 nv iv wr) (fun _ iv _ => 3 - (intOf iv).toNat)
    case atStart => exact ⟨0, rfl, rfl, ⟨by decide, Nat.zero_le _, fun j hj => by omega⟩, rfl⟩
    case round =>
      obtain ⟨i, rfl, rfl, hd, rfl⟩ := hrel
      have h3 := hd.three
      have hil := hd.len
      have hv := hd.lt
      have hv2 : hdV l i < 1000 := Nat.lt_of_lt_of_le hv (Nat.pow_le_pow_right (by decide) h3 : 10 ^ i ≤ 10 ^ 3)
      have HD := Lib.hid hd
      obtain ⟨v, hvv⟩ : ∃ v, hdV l i = v := ⟨_, rfl⟩
      rw [hvv] at hv2 ⊢
      have HV := Lib.hid hvv
      clear hd hv hvv
      by_cases hi : i < l.length
      · have hi2 : i < (strOf l).size := by omega
        have hx := str_at hi2
        obtain ⟨x, hxx⟩ : ∃ x, chAt l i = x := ⟨_, rfl⟩
        rw [hxx] at hx
        have HX := Lib.hid hxx
        have d1 : decide (i < l.length) = true := decide_eq_true hi
        have d1' : decide ((i : Int) < ((l.length : Nat) : Int)) = true := decide_eq_true (by omega)
        have HI := Lib.hid hi
        clear hxx hi
        by_cases h3i : i < 3
        · have d2 : decide (i < 3) = true := decide_eq_true h3i
          have d2' : decide ((i : Int) < 3) = true := decide_eq_true (by omega)
          by_cases hlo : 48 ≤ x.toNat
          · have d3 : decide (48 ≤ x.toNat) = true := decide_eq_true hlo
            have d3' : decide ((48 : Int) ≤ (x.toNat : Int)) = true := decide_eq_true (by omega)
            by_cases hhi : x.toNat ≤ 57
            · have d4 : decide (x.toNat ≤ 57) = true := decide_eq_true hhi
              have d4' : decide ((x.toNat : Int) ≤ 57) = true := decide_eq_true (by omega)
              have HU := Lib.hid (HD.out.up HI.out h3i (by rw [HX.out]; exact (isD_iff x).mpr ⟨hlo, hhi⟩))
              have w1 : IntKind.i64.wrap (10 * (v : Int)) = 10 * v := IntWalk.i64_in _ (by omega)
              have w2 : IntKind.u8.wrap ((x.toNat : Int) - 48) = (x.toNat : Int) - 48 := by rw [IntKind.wrap_u8]; omega
              have w3 : IntKind.i64.wrap ((x.toNat : Int) - 48) = (x.toNat : Int) - 48 := IntWalk.i64_in _ (by omega)
              have w4 : IntKind.i64.wrap (10 * (v : Int) + ((x.toNat : Int) - 48)) = 10 * (v : Int) + ((x.toNat : Int) - 48) := IntWalk.i64_in _ (by omega)
              have w5 : IntKind.i64.wrap ((i : Int) + 1) = (i : Int) + 1 := IntWalk.i64_in _ (by omega)
              have HVN := Lib.hid (show 10 * (v : Int) + ((x.toNat : Int) - 48) = ((hdV l (i + 1) : Nat) : Int) by
                show _ = ((10 * hdV l i + ((chAt l i).toNat - 48) : Nat) : Int)
                rw [HV.out, HX.out]
                omega)
              clear hlo hhi
              go_wp2_with fail
              exact ⟨⟨i + 1, by rw [HVN.out], by go_num, HU.out, rfl⟩, by simp [intOf]; omega⟩
            · have d4 : decide (x.toNat ≤ 57) = false := decide_eq_false hhi
              have d4' : decide ((x.toNat : Int) ≤ 57) = false := decide_eq_false (by omega)
              have HEN := Lib.hid (show HdEnd l i from .inr (.inr (by rw [HX.out, Bool.eq_false_iff, ne_eq, isD_iff]; omega)))
              clear hlo hhi
              go_wp2_with fail
              go_meet
              exact ⟨i, by rw [HV.out], rfl, HD.out, HEN.out, rfl⟩
          · have d3 : decide (48 ≤ x.toNat) = false := decide_eq_false hlo
            have d3' : decide ((48 : Int) ≤ (x.toNat : Int)) = false := decide_eq_false (by omega)
            have HEN := Lib.hid (show HdEnd l i from .inr (.inr (by rw [HX.out, Bool.eq_false_iff, ne_eq, isD_iff]; omega)))
            clear hlo
            go_wp2_with fail
            go_meet
            exact ⟨i, by rw [HV.out], rfl, HD.out, HEN.out, rfl⟩
        · have d2 : decide (i < 3) = false := decide_eq_false h3i
          have d2' : decide ((i : Int) < 3) = false := decide_eq_false (by omega)
          have HEN := Lib.hid (show HdEnd l i from .inr (.inl (by omega)))
          clear h3i
          go_wp2_with fail
          go_meet
          exact ⟨i, by rw [HV.out], rfl, HD.out, HEN.out, rfl⟩
      · have d1 : decide (i < l.length) = false := decide_eq_false hi
        have d1' : decide ((i : Int) < ((l.length : Nat) : Int)) = false := decide_eq_false (by omega)
        have HEN := Lib.hid (show HdEnd l i from .inl (by omega))
        clear hi
        go_wp2_with fail
        go_meet
        exact ⟨i, by rw [HV.out], rfl, HD.out, HEN.out, rfl⟩
  case rest =>
    obtain ⟨i, rfl, rfl, hd, he, rfl⟩ := hcut
    have h3 := hd.three
    obtain ⟨n, hn⟩ : ∃ n, hdV l i = n := ⟨_, rfl⟩
    have HD := Lib.hid hd
    have HEN := Lib.hid he
    have HN := Lib.hid hn
    rw [hn]
    have hn2 : n < 1000 := by rw [← hn]; exact Nat.lt_of_lt_of_le hd.lt (Nat.pow_le_pow_right (by decide) h3 : 10 ^ i ≤ 10 ^ 3)
    clear hd he hn
    by_cases hb : n < 2 ∨ 64 < n
    · by_cases h2 : n < 2
      · have d1 : decide (n < 2) = true := decide_eq_true h2
        have d1' : decide ((n : Int) < 2) = true := decide_eq_true (by omega)
        clear hb h2
        go_wp2_with fail
        refine (HKN.out _).mono ?_
        rintro e w2 ⟨rfl, hk⟩
        have HK2 := Lib.hid (HK1.out.and hk)
        clear hk
        go_wp2_with fail
        go_ret
        exact ⟨rfl, HK2.out⟩
      · have d1 : decide (n < 2) = false := decide_eq_false h2
        have d1' : decide ((n : Int) < 2) = false := decide_eq_false (by omega)
        have d2 : decide (64 < n) = true := decide_eq_true (by omega)
        have d2' : decide (64 < (n : Int)) = true := decide_eq_true (by omega)
        clear hb h2
        go_wp2_with fail
        refine (HKN.out _).mono ?_
        rintro e w2 ⟨rfl, hk⟩
        have HK2 := Lib.hid (HK1.out.and hk)
        clear hk
        go_wp2_with fail
        go_ret
        exact ⟨rfl, HK2.out⟩
    obtain ⟨k, hz⟩ := Sz.ex (E := n) (by omega) (by omega)
    have HZ := Lib.hid hz
    have hle := hz.le
    clear hz
    have d1 : decide (n < 2) = false := decide_eq_false (by omega)
    have d1' : decide ((n : Int) < 2) = false := decide_eq_false (by omega)
    have d2 : decide (64 < n) = false := decide_eq_false (by omega)
    have d2' : decide (64 < (n : Int)) = false := decide_eq_false (by omega)
    clear hb
    go_wp2_with fail
    refine (HFR.out _ _ HZ.out _).mono ?_
    rintro e w2 ⟨g, r, cap, rfl, hg, hr, hms, hk⟩
    have HK2 := Lib.hid (HK1.out.and hk)
    have HM2 := Lib.hid hms
    have HR2 := Lib.hid (show w.heap.size ≤ r by have := HK1.out.size; omega)
    have hp := Nat.one_le_two_pow (n := k)
    obtain ⟨S, hS⟩ : ∃ S, 2 ^ k = S := ⟨_, rfl⟩
    have HRW := Lib.hid (fun f w (hM : MS k n f g r cap w) => (show w.cell? ⟨g, 2, none⟩ = some (.slice (some ⟨r, 0, none⟩) (S - 1) cap) by rw [← hS]; exact hM.row))
    have HS := Lib.hid hS
    rw [hS] at hle hp
    have hl := HL.out
    clear hk hms hg hr hS
    go_upto_block 2 with (fail)
    go_cut [8] from 66 (fun jv wx => RmOut k n S i g r cap l w2 jv wx)
    case first =>
      go_wp2_with fail
      go_loopw [8] (fun jv wr => RmRel k n S i g r cap l w2 jv wr) (fun jv _ => S - (intOf jv).toNat)
      case atStart => exact ⟨0, rfl, by omega, HM2.out, Kept.refl _ _⟩
      case round =>
        obtain ⟨j, rfl, hj, hm, hk⟩ := hrel
        have HMJ := Lib.hid hm
        have HKJ := Lib.hid hk
        have cr := HRW.out _ _ hm
        clear hm hk
        by_cases hlt : j + 1 < S
        · have e1 : decide (j < S - 1) = true := decide_eq_true (by omega)
          have e1' : decide ((j : Int) < ((S - 1 : Nat) : Int)) = true := decide_eq_true (by omega)
          have w1 : IntKind.i64.wrap ((i : Int) + 1) = (i : Int) + 1 := IntWalk.i64_in _ (by omega)
          have w2 : IntKind.i64.wrap ((i : Int) + 1 + (j : Int)) = (i : Int) + 1 + (j : Int) := IntWalk.i64_in _ (by omega)
          have w3 : IntKind.i64.wrap ((j : Int) + 1) = (j : Int) + 1 := IntWalk.i64_in _ (by omega)
          by_cases hin : i + 1 + j < l.length
          · have e2 : decide ((i : Int) + 1 + (j : Int) < ((l.length : Nat) : Int)) = true := decide_eq_true (by omega)
            have hi2 : i + 1 + j < (strOf l).size := by omega
            have hx := str_at hi2
            obtain ⟨x, hxx⟩ : ∃ x, chAt l (i + 1 + j) = x := ⟨_, rfl⟩
            rw [hxx] at hx
            have HNX := Lib.hid (show rdN k n (fun x => chAt l (i + 1 + x)) (j + 1) = readC k n (rdN k n (fun x => chAt l (i + 1 + x)) j) j x by rw [← hxx]; rfl)
            have HJ := Lib.hid hlt
            have HRC := Lib.hid (fun h : x = 48 ∨ x = 49 => reportM_char HMJ.out (m := j) (by rw [HS.out]; exact hlt) h)
            have HRN := Lib.hid (fun (h0 : x ≠ 48) (h1 : x ≠ 49) => (readC_other h0 h1 : readC k n (rdN k n (fun x => chAt l (i + 1 + x)) j) j x = _))
            have hx255 : x.toNat < 256 := x.toNat_lt
            clear hxx hlt
            by_cases h0 : x = 48
            · subst h0
              have HRC2 := Lib.hid (show Calls Tryd.prog 24 #[.pointer (some ⟨g, 0, none⟩), .int .i64 (j : Nat), .int .i64 0] wr fun e w' => (∃ v, e = .returned (.int .i64 v)) ∧ MS k n (readC k n (rdN k n (fun x => chAt l (i + 1 + x)) j) j 48) g r cap w' ∧ Kept (fun i => i = r) wr w' from HRC.out (.inl rfl))
              clear HRC HRN
              go_wp2_with fail
              refine HRC2.out.mono ?_
              rintro e w3 ⟨⟨v, rfl⟩, hm3, hk3⟩
              have HM3 := Lib.hid hm3
              have HK3 := Lib.hid (HKJ.out.and hk3)
              clear hm3 hk3
              go_wp2_with fail
              have hJ := HJ.out
              exact ⟨⟨j + 1, by go_num, by omega, by rw [HNX.out]; exact HM3.out, HK3.out⟩, by simp [intOf]; omega⟩
            · by_cases h1 : x = 49
              · subst h1
                have HRC2 := Lib.hid (show Calls Tryd.prog 24 #[.pointer (some ⟨g, 0, none⟩), .int .i64 (j : Nat), .int .i64 1] wr fun e w' => (∃ v, e = .returned (.int .i64 v)) ∧ MS k n (readC k n (rdN k n (fun x => chAt l (i + 1 + x)) j) j 49) g r cap w' ∧ Kept (fun i => i = r) wr w' from HRC.out (.inr rfl))
                clear HRC HRN h0
                go_wp2_with fail
                refine HRC2.out.mono ?_
                rintro e w3 ⟨⟨v, rfl⟩, hm3, hk3⟩
                have HM3 := Lib.hid hm3
                have HK3 := Lib.hid (HKJ.out.and hk3)
                clear hm3 hk3
                go_wp2_with fail
                have hJ := HJ.out
                exact ⟨⟨j + 1, by go_num, by omega, by rw [HNX.out]; exact HM3.out, HK3.out⟩, by simp [intOf]; omega⟩
              · have HRN2 := Lib.hid (HRN.out h0 h1)
                have hx0 : ¬ x.toNat = 48 := fun e => h0 (UInt8.toNat.inj e)
                have hx1 : ¬ x.toNat = 49 := fun e => h1 (UInt8.toNat.inj e)
                have e3 : ((x.toNat : Int) == 48) = false := by simp; omega
                have e4 : ((x.toNat : Int) == 49) = false := by simp; omega
                clear HRC HRN h0 h1
                go_wp2_with fail
                have hJ := HJ.out
                exact ⟨⟨j + 1, by go_num, by omega, by rw [HNX.out, HRN2.out]; exact HMJ.out, HKJ.out⟩, by simp [intOf]; omega⟩
          · have e2 : decide ((i : Int) + 1 + (j : Int) < ((l.length : Nat) : Int)) = false := decide_eq_false (by omega)
            have HJ := Lib.hid (And.intro hj (show l.length ≤ i + 1 + j by omega))
            clear hlt hin
            go_wp2_with fail
            go_meet
            exact ⟨j, rfl, HJ.out.1, .inr HJ.out.2, HMJ.out, HKJ.out⟩
        · have e1 : decide (j < S - 1) = false := decide_eq_false (by omega)
          have e1' : decide ((j : Int) < ((S - 1 : Nat) : Int)) = false := decide_eq_false (by omega)
          have HJ := Lib.hid (And.intro hj (show j + 1 = S by omega))
          clear hlt
          go_wp2_with fail
          go_meet
          exact ⟨j, rfl, HJ.out.1, .inl HJ.out.2, HMJ.out, HKJ.out⟩
    case rest =>
      obtain ⟨j, rfl, hj, hje, hm, hk⟩ := hcut
      obtain ⟨f, hf⟩ : ∃ f, rdN k n (fun x => chAt l (i + 1 + x)) j = f := ⟨_, rfl⟩
      have hw : WF k n f := by
        rw [← hf]
        exact rdN_wf HZ.out _ j (by rw [HS.out]; exact hj)
      have htx : textF k n f ≠ l := HNO.out _ _ _ HZ.out hw
      rw [hf] at hm
      have HTM := Lib.hid (textM_any hm hw)
      have HK3 := Lib.hid (HK2.out.new hk (fun i hi => hi ▸ HR2.out))
      have e2 : ((strOf (textF k n f)).toList == (strOf l).toList) = false := by
        rw [beq_eq_false_iff_ne]
        intro h
        rw [ByteArray.toList_eq, ByteArray.toList_eq, strOf_list, strOf_list] at h
        exact htx h
      clear hm hk hw hf htx hj hje
      go_wp2_with fail
      refine HTM.out.mono ?_
      rintro e w4 ⟨rfl, hk⟩
      have HK4 := Lib.hid (HK3.out.and hk)
      clear hk
      go_wp2_with fail
      refine (HKN.out _).mono ?_
      rintro e w6 ⟨rfl, hk⟩
      have HK6 := Lib.hid (HK4.out.and hk)
      clear hk
      go_wp2_with fail
      go_ret
      exact ⟨rfl, HK6.out⟩
theorem reads_any {s : ByteArray} (hmax : s.size ≤ maxLen) {w : World} (hE : Errs w) : Calls Tryd.prog 6 #[.string s] w fun e w' => e = .returned (.bool true) ∧ Kept No w w' := by
  by_cases h : 100 < s.size
  · exact reads_long h hmax w
  · obtain ⟨l, rfl⟩ : ∃ l, s = strOf l := ⟨s.data.toList, by simp [strOf]⟩
    rw [strOf_size] at h
    by_cases hy : ∃ k E f, Sz k E ∧ WF k E f ∧ textF k E f = l
    · obtain ⟨k, E, f, hz, hf, ht⟩ := hy
      exact reads_yes (by omega) hz hf ht hE
    · exact reads_no (by omega) (fun k E f hz hf ht => hy ⟨k, E, f, hz, hf, ht⟩) hE
end Go.Proofs.YtphlpclhmodekaaDoor
