/-
  Bracket: Parse.
-/
import Derived.Test.YtphlpclhmodekaaDoorWalkZ
import Derived.Test.YtphlpclhmodekaaDoorShelf2
import Derived.Test.YtphlpclhmodekaaDoorLq
set_option linter.unusedVariables false
set_option linter.unusedSimpArgs false
namespace Go.Proofs.YtphlpclhmodekaaDoor
open Go.RowKit Go.Zn
attribute [local go_sem] Oper.semAt_some

theorem strOf_list (l : List UInt8) : (strOf l).data.toList = l := by simp [strOf]
theorem kept_bytes (w : World) (e : TypeId) (s : ByteArray) : Kept No w (Lib.bytesWorld w e s) :=
  ⟨rfl, rfl, rfl, by rw [Lib.bytesWorld_size]; omega, fun k hk _ => Lib.bytesWorld_at_old w e s k hk⟩
/-- the two errors of strconv are there, and the number that strings.Cut reads -/
structure Errs (w : World) : Prop where
  m : ∃ m, w.cell? ⟨0, 0, none⟩ = some (.int .i64 m)
  s : ∃ ev, w.cell? ⟨1, 0, none⟩ = some ev ∧ (ev = .nilIface ∨ ∃ te pe, ev = .iface te pe)
  r : ∃ ev, w.cell? ⟨2, 0, none⟩ = some ev ∧ (ev = .nilIface ∨ ∃ te pe, ev = .iface te pe)
theorem Errs.to {w w' : World} (h : Errs w) {S : Nat → Prop} (hk : Kept S w w') (h0 : ¬ S 0) (h1 : ¬ S 1) (h2 : ¬ S 2) : Errs w' := by
  obtain ⟨⟨m, hm⟩, ⟨e1, g1, k1⟩, ⟨e2, g2, k2⟩⟩ := h
  exact ⟨⟨m, hk.cell hm h0⟩, ⟨e1, hk.cell g1 h1, k1⟩, ⟨e2, hk.cell g2 h2, k2⟩⟩
theorem Errs.no {w w' : World} (h : Errs w) (hk : Kept No w w') : Errs w' := h.to hk (not_no _) (not_no _) (not_no _)
theorem atoi_any {l : List UInt8} (hs : l.length ≤ 1000) (w : World) (hE : Errs w) :
    Calls Tryd.prog 43 #[.string (strOf l)] w fun e w' => (∃ p, e = .returned (.tuple #[.int .i64 (match Lib.atoiAll l with | .ok v => v | .«syntax» => 0 | .range => Lib.atoiSat l), p])) ∧ Kept No w w' := by
  obtain ⟨_, ⟨e1, h1, k1⟩, ⟨e2, h2, k2⟩⟩ := hE
  have hsz := strOf_size l
  have ha : Lib.atoiAll (strOf l).data.toList = Lib.atoiAll l := by rw [strOf_list]
  have hsat : Lib.atoiSat (strOf l).data.toList = Lib.atoiSat l := by rw [strOf_list]
  rcases h : Lib.atoiAll l with v | _ | _
  · refine (Tryd.strconv_Atoi_ok (strOf l) (by omega) v (ha.trans h) w).mono fun e w' ⟨he, hw⟩ => ⟨⟨_, he⟩, ?_⟩
    rcases hw with rfl | ⟨t, rfl⟩
    · exact Kept.refl No _
    · exact kept_bytes _ _ _
  · exact (Tryd.strconv_Atoi_syntax (strOf l) (by omega) (ha.trans h) e1 w h1 k1).mono fun e w' ⟨n, he, _, _, hb⟩ => ⟨⟨_, he⟩, Kept.of_below hb⟩
  · exact (Tryd.strconv_Atoi_range (strOf l) (by omega) (ha.trans h) e2 w h2 k2).mono fun e w' ⟨n, he, _, _, hb⟩ => ⟨⟨.iface 90 (.pointer (some ⟨n, 0, none⟩)), by rw [hsat] at he; exact he⟩, Kept.of_below hb⟩
theorem cut_any {l : List UInt8} (hs : l.length ≤ 1000) (w : World) (hE : Errs w) :
    Calls Tryd.prog 42 #[.string (strOf l), .string ⟨#[58]⟩] w fun e w' => (∃ o, e = .returned (.tuple #[.string (strOf (Lib.cut l [58]).1), .string (strOf (pT l)), .bool o])) ∧ Kept No w w' := by
  obtain ⟨⟨m, hm⟩, _, _⟩ := hE
  have hsz := strOf_size l
  refine (Tryd.strings_Cut (strOf l) ⟨#[58]⟩ m w (by omega) hm).mono fun e w' ⟨he, n, hw⟩ => ⟨⟨(Lib.cut l [58]).2.2, ?_⟩, ?_⟩
  · rw [he, strOf_list]
    rfl
  · rw [hw]; exact (Kept.refl No w).drewN n
def seatC (x : UInt8) : Int := if x = 48 then 0 else if x = 49 then 1 else -1
theorem indexB_any (x : UInt8) (w : World) : Calls Tryd.prog 44 #[.string ⟨#[48, 49]⟩, .int .u8 (x.toNat : Nat)] w fun e w' => e = .returned (.int .i64 (seatC x)) ∧ w' = w := by
  refine (Tryd.strings_IndexByte ⟨#[48, 49]⟩ (x.toNat : Nat) w).mono fun e w' ⟨he, hw⟩ => ⟨he.trans ?_, hw⟩
  have e1 : (x.toNat : Int).toNat.toUInt8 = x := by simp
  rw [e1]
  show Ending.returned (.int .i64 (Lib.indexByte [48, 49] x)) = _
  congr 2
  unfold seatC
  simp only [Lib.indexByte]
  by_cases h1 : x = 48
  · subst h1; rfl
  · by_cases h2 : x = 49
    · subst h2; rfl
    · have e1 : ((48 : UInt8) == x) = false := by simpa using fun e => h1 e.symm
      have e2 : ((49 : UInt8) == x) = false := by simpa using fun e => h2 e.symm
      simp [e1, e2, h1, h2]
def PRel (k n S T b : Nat) (t : Nat → UInt8) (w0 : World) (iv : Value) (wr : World) : Prop :=
  ∃ j : Nat, iv = .int .i64 (j : Nat) ∧ j ≤ T ∧ j + 1 ≤ S ∧ BS k n (rdN k n t j) b wr ∧ Kept No w0 wr
/-- what Parse hands back -/
def ParsePost (l : List UInt8) (w0 : World) (e : Ending) (w' : World) : Prop :=
  Kept No w0 w' ∧ ((∃ k E f b, textF k E f = l ∧ w0.heap.size ≤ b ∧ BS k E f b w' ∧ e = .returned (.tuple #[.pointer (some ⟨b, 0, none⟩), .int .i64 0])) ∨
    (e = .returned (.tuple #[.pointer none, .int .i64 6]) ∧ ∀ k E f, Sz k E → WF k E f → textF k E f ≠ l))
/-- the report of a character -/
theorem report_char {k E : Nat} {f : Nat → Nat} {b : Nat} {w : World} (hB : BS k E f b w) {m : Nat} (hm : m + 1 < 2 ^ k) {x : UInt8} (hx : 0 ≤ seatC x) : Calls Tryd.prog 13 #[.pointer (some ⟨b, 0, none⟩), .int .i64 (m : Nat), .int .i64 (seatC x)] w fun e w' => (∃ v, e = .returned (.int .i64 v)) ∧ BS k E (readC k E f m x) b w' ∧ Kept (fun i => i = b) w w' := by
  have hc : x = 48 ∨ x = 49 := by
    unfold seatC at hx
    by_cases h1 : x = 48
    · exact .inl h1
    · by_cases h2 : x = 49
      · exact .inr h2
      · rw [if_neg h1, if_neg h2] at hx; omega
  unfold readC
  cases ho : openF k E f m
  · have hs : seatC x = 0 ∨ seatC x = 1 := by rcases hc with rfl | rfl <;> decide
    rw [if_neg (by simp)]
    exact (report_shut hB hs hm ho).mono fun e w' ⟨he, hw⟩ => ⟨⟨_, he⟩, hw ▸ hB, hw ▸ Kept.refl _ _⟩
  · rw [if_pos ⟨hc, rfl⟩]
    rcases hc with rfl | rfl
    · exact (report_open hB hm (s := 0) (by decide) ho).mono fun e w' ⟨he, hb, hk⟩ => ⟨⟨_, he⟩, hb, hk⟩
    · exact (report_open hB hm (s := 1) (by decide) ho).mono fun e w' ⟨he, hb, hk⟩ => ⟨⟨_, he⟩, hb, hk⟩
theorem readC_none {k E : Nat} {f : Nat → Nat} {m : Nat} {x : UInt8} (hx : ¬ 0 ≤ seatC x) : readC k E f m x = f := by
  unfold readC
  rw [if_neg]
  rintro ⟨rfl | rfl, _⟩ <;> exact hx (by decide)
theorem parse_out {l : List UInt8} (hl : l.length ≤ 1000) {w : World} (hE : Errs w) (hn : pN l < 2 ∨ 64 < pN l) : Calls Tryd.prog 23 #[.string (strOf l)] w (ParsePost l w) := by
  have HNO := Lib.hid (show ∀ k E f, Sz k E → WF k E f → textF k E f ≠ l from fun k E f hz hf ht => by
    subst ht
    rw [pN_text f hz.e64.2] at hn
    have := hz.e64
    omega)
  have hc := cut_len l
  have HA := Lib.hid (fun w (hE : Errs w) => (show Calls Tryd.prog 43 #[.string (strOf (Lib.cut l [58]).1)] w fun e w' => (∃ p, e = .returned (.tuple #[.int .i64 (pN l), p])) ∧ Kept No w w' from atoi_any (by omega) w hE))
  have HC := Lib.hid (cut_any hl w hE)
  have HN := Lib.hid (fun w => new_out hn w)
  have HE := Lib.hid hE
  obtain ⟨hd, hhd⟩ : ∃ hd, strOf (Lib.cut l [58]).1 = hd := ⟨_, rfl⟩
  obtain ⟨tl, htl⟩ : ∃ tl, strOf (pT l) = tl := ⟨_, rfl⟩
  obtain ⟨n, hpn⟩ : ∃ n, pN l = n := ⟨_, rfl⟩
  rw [hhd, htl] at HC
  rw [hhd, hpn] at HA
  rw [hpn] at HN
  clear hl hE hn hc hhd htl hpn
  go_enter Tryd.func23, Tryd.ntmps23
  go_wp2_with fail
  refine HC.out.mono ?_
  rintro e w1 ⟨⟨o, rfl⟩, hk⟩
  have HK1 := Lib.hid hk
  clear hk
  go_wp2_with fail
  refine (HA.out _ (HE.out.no HK1.out)).mono ?_
  rintro e w2 ⟨⟨p, rfl⟩, hk⟩
  have HK2 := Lib.hid (HK1.out.and hk)
  clear hk
  go_wp2_with fail
  refine (HN.out _).mono ?_
  rintro e w3 ⟨rfl, hk⟩
  have hk := hk.symm
  subst hk
  go_wp2_with fail
  go_ret2
  exact ⟨HK2.out, .inr ⟨rfl, HNO.out⟩⟩
set_option maxHeartbeats 4000000 in
theorem parse_in {k n : Nat} (hz : Sz k n) {l : List UInt8} (hl : l.length ≤ 1000) {w : World} (hE : Errs w) (hn : pN l = (n : Nat)) : Calls Tryd.prog 23 #[.string (strOf l)] w (ParsePost l w) := by
  have hc := cut_len l
  have hn64 := hz.e64
  have hle := hz.le
  have hp := Nat.one_le_two_pow (n := k)
  have HA := Lib.hid (fun w (hE : Errs w) => (show Calls Tryd.prog 43 #[.string (strOf (Lib.cut l [58]).1)] w fun e w' => (∃ p, e = .returned (.tuple #[.int .i64 (n : Nat), p])) ∧ Kept No w w' from hn ▸ atoi_any (by omega) w hE))
  have HC := Lib.hid (cut_any hl w hE)
  have HN := Lib.hid (fun w => new_in hz w)
  have HE := Lib.hid hE
  have HRD := Lib.hid (fun E f j (hz2 : Sz j E) (h : WF j E f) (ht : textF j E f = l) => prog_read hz2 h ht hz hn)
  have HZ := Lib.hid hz
  obtain ⟨hd, hhd⟩ : ∃ hd, strOf (Lib.cut l [58]).1 = hd := ⟨_, rfl⟩
  obtain ⟨tl, htl⟩ : ∃ tl, pT l = tl := ⟨_, rfl⟩
  rw [hhd, htl] at HC
  rw [hhd] at HA
  rw [htl] at HRD hc
  obtain ⟨S, hS⟩ : ∃ S, 2 ^ k = S := ⟨_, rfl⟩
  have HS := Lib.hid hS
  have hts := strOf_size tl
  have htl2 : tl.length ≤ 1000 := by omega
  rw [hS] at hle hp
  clear hE hn hc hhd htl hS hz hl
  go_enter Tryd.func23, Tryd.ntmps23
  go_wp2_with fail
  refine HC.out.mono ?_
  rintro e w1 ⟨⟨o, rfl⟩, hk⟩
  have HK1 := Lib.hid hk
  clear hk
  go_wp2_with fail
  refine (HA.out _ (HE.out.no HK1.out)).mono ?_
  rintro e w2 ⟨⟨p, rfl⟩, hk⟩
  have HK2 := Lib.hid (HK1.out.and hk)
  clear hk
  go_wp2_with fail
  refine (HN.out _).mono ?_
  rintro e w3 ⟨b, rfl, hwb, hb, hk⟩
  have HK3 := Lib.hid (HK2.out.and hk)
  have HB := Lib.hid hb
  have c1 : w3.cell? ⟨b, 1, none⟩ = some (.int .i64 (S : Nat)) := by rw [← HS.out]; exact hb.size
  have HWB := Lib.hid (show w.heap.size ≤ b by have := HK2.out.size; omega)
  have q0 : IntKind.i64.wrap ((S : Int) - 1) = (S : Int) - 1 := IntWalk.i64_in _ (by omega)
  clear hk hb hwb
  obtain ⟨T, hT1, hT2, hT3⟩ : ∃ T : Nat, T ≤ tl.length ∧ T + 1 ≤ S ∧ (T = tl.length ∨ T + 1 = S) := by
    by_cases h : tl.length + 1 ≤ S
    · exact ⟨tl.length, Nat.le_refl _, h, .inl rfl⟩
    · exact ⟨S - 1, by omega, by omega, .inr (by omega)⟩
  have hmin : min ((tl.length : Nat) : Int) ((S : Int) - 1) = (T : Int) := by omega
  have HT3 := Lib.hid hT3
  clear hT3
  go_wp2_with fail
  go_loopw [39] (fun iv wr => PRel k n S T b (chAt tl) w iv wr) (fun iv _ => T - (intOf iv).toNat)
  case atStart => exact ⟨0, rfl, Nat.zero_le _, hp, HB.out, HK3.out⟩
  case round =>
    clear c1 HB
    obtain ⟨j, rfl, hj, hjS, hb, hk⟩ := hrel
    have HBR := Lib.hid hb
    have HKR := Lib.hid hk
    clear hb hk
    by_cases hlt : j < T
    · have hjl : j < tl.length := by omega
      have hjl2 : j < (strOf tl).size := by omega
      obtain ⟨x, hx⟩ : ∃ x, chAt tl j = x := ⟨_, rfl⟩
      have hxk : (strOf tl)[j] = x := by
        rw [← hx]
        unfold chAt
        rw [List.getD_eq_getElem?_getD, List.getElem?_eq_getElem hjl]
        simp [strOf, ByteArray.getElem_eq_getElem_data]
      have HIX := Lib.hid (indexB_any x wr)
      have HRC := Lib.hid (fun h : 0 ≤ seatC x => report_char HBR.out (m := j) (by rw [HS.out]; omega) (x := x) h)
      have HRN := Lib.hid (fun h : ¬ 0 ≤ seatC x => (readC_none h : readC k n (rdN k n (chAt tl) j) j x = _))
      have HNX := Lib.hid (show rdN k n (chAt tl) (j + 1) = readC k n (rdN k n (chAt tl) j) j x by rw [← hx]; rfl)
      have q4 : IntKind.i64.wrap ((j : Int) + 1) = (j : Int) + 1 := IntWalk.i64_in _ (by omega)
      have d1 : decide ((j : Int) < (T : Int)) = true := decide_eq_true (by omega)
      have d1' : decide (j < T) = true := decide_eq_true (by omega)
      have HJ := Lib.hid (And.intro hlt (And.intro hT1 hT2))
      obtain ⟨z, hz⟩ : ∃ z, seatC x = z := ⟨_, rfl⟩
      rw [hz] at HIX HRC HRN
      clear hx hz hlt hj hjS hT1 hT2 hmin
      by_cases hz0 : 0 ≤ z
      · have HRC2 := Lib.hid (HRC.out hz0)
        have d2 : decide (0 ≤ z) = true := decide_eq_true hz0
        clear HRN HRC
        go_wp2_with fail
        refine HIX.out.mono ?_
        rintro e w4 ⟨rfl, hk⟩
        have hk := hk.symm
        subst hk
        go_wp2_with fail
        refine HRC2.out.mono ?_
        rintro e w5 ⟨⟨v, rfl⟩, hb, hk⟩
        have HB5 := Lib.hid hb
        have HK5 := Lib.hid (HKR.out.new hk (fun i hi => hi ▸ HWB.out))
        clear hb hk
        go_wp2_with fail
        have hJ := HJ.out
        refine ⟨⟨j + 1, by go_num, by omega, by omega, by rw [HNX.out]; exact HB5.out, HK5.out⟩, by simp [intOf]; omega⟩
      · have HRN2 := Lib.hid (HRN.out hz0)
        have d2 : decide (0 ≤ z) = false := decide_eq_false hz0
        clear HRN HRC
        go_wp2_with fail
        refine HIX.out.mono ?_
        rintro e w4 ⟨rfl, hk⟩
        have hk := hk.symm
        subst hk
        go_wp2_with fail
        have hJ := HJ.out
        refine ⟨⟨j + 1, by go_num, by omega, by omega, by rw [HNX.out, HRN2.out]; exact HBR.out, HKR.out⟩, by simp [intOf]; omega⟩
    · have hjT : j = T := by omega
      subst hjT
      have d1 : decide ((j : Int) < (j : Int)) = false := decide_eq_false (by omega)
      have HTX := Lib.hid (text_any HBR.out)
      obtain ⟨f, hf⟩ : ∃ f, rdN k n (chAt tl) j = f := ⟨_, rfl⟩
      have HNO := Lib.hid (show textF k n f ≠ l → ∀ i E g, Sz i E → WF i E g → textF i E g ≠ l from fun hne i E g hz2 hg ht => by
        obtain ⟨rfl, rfl, h3, h4⟩ := HRD.out E g i hz2 hg ht
        have hST := HS.out
        have h3' := HT3.out
        obtain rfl : j = S - 1 := by omega
        rw [hST, hf] at h4
        rw [h4] at hne
        exact hne ht)
      rw [hf] at HTX HBR
      clear hf hlt hj hjS hT1 hT2 hmin
      by_cases ht : textF k n f = l
      · have e1 : ((strOf (textF k n f)).toList == (strOf l).toList) = true := by rw [ht]; simp
        have e2 : strOf (textF k n f) = strOf l := by rw [ht]
        have HT := Lib.hid ht
        clear ht
        go_wp2_with fail
        refine HTX.out.mono ?_
        rintro e w4 ⟨rfl, hk⟩
        have HK4 := Lib.hid hk
        clear hk
        rw [e2]
        go_wp2_with fail
        go_ret2
        exact ⟨HKR.out.and HK4.out, .inl ⟨k, n, f, b, HT.out, HWB.out, HBR.out.to HK4.out (not_no _), rfl⟩⟩
      · have e1 : ((strOf (textF k n f)).toList == (strOf l).toList) = false := by
          rw [beq_eq_false_iff_ne]
          intro h
          rw [ByteArray.toList_eq, ByteArray.toList_eq, strOf_list, strOf_list] at h
          exact ht h
        have HN2 := Lib.hid (HNO.out ht)
        clear ht
        go_wp2_with fail
        refine HTX.out.mono ?_
        rintro e w4 ⟨rfl, hk⟩
        have HK4 := Lib.hid hk
        clear hk
        go_wp2_with fail
        go_ret2
        exact ⟨HKR.out.and HK4.out, .inr ⟨rfl, HN2.out⟩⟩
theorem parse_any {l : List UInt8} (hl : l.length ≤ 1000) {w : World} (hE : Errs w) : Calls Tryd.prog 23 #[.string (strOf l)] w (ParsePost l w) := by
  by_cases hn : pN l < 2 ∨ 64 < pN l
  · exact parse_out hl hE hn
  · obtain ⟨n, h⟩ := Int.eq_ofNat_of_zero_le (show 0 ≤ pN l by omega)
    obtain ⟨k, hz⟩ := Sz.ex (E := n) (by omega) (by omega)
    exact parse_in hz hl hE h
end Go.Proofs.YtphlpclhmodekaaDoor
