/-
  Bracket: the walk of BracketHolds.
-/
import Derived.Test.YtphlpclhmodekaaDoorWalkN
import Derived.Deep.CutRange
import Derived.Deep.RegionHeld3
set_option linter.unusedVariables false
set_option linter.unusedSimpArgs false
namespace Go.Proofs.YtphlpclhmodekaaDoor
open Go.RowKit Go.Zn
attribute [local go_sem] Oper.semAt_some

set_option maxRecDepth 100000 in
set_option maxHeartbeats 16000000 in
theorem holds_in {k E : Nat} (hz : Sz k E) {pv : Value} {ps : List UInt8} {B : Nat → Prop} {w : World} (hp : Rd w B 1 pv ps.length (bts ps)) (hn : ps.length ≤ 64) : Calls Tryd.prog 3 #[.int .i64 (E : Nat), pv] w fun e w' => e = .returned (.bool true) ∧ Kept No w w' := by
  have hE2 : 2 ≤ E := by have := hz.lo; have := pow_le' hz.one; omega
  have hE64 : E ≤ 64 := by have := hz.hi; have := hz.le; omega
  have q1 : decide ((E : Int) < 2) = false := decide_eq_false (by omega)
  have q2 : decide (64 < (E : Int)) = false := decide_eq_false (by omega)
  obtain ⟨ad, cap, rfl⟩ := rd_slice hp
  obtain ⟨n, hnn⟩ : ∃ n, ps.length = n := ⟨_, rfl⟩
  have HPS := Lib.hid hp
  rw [hnn] at hn ⊢
  have q3 : decide (64 < (n : Int)) = false := decide_eq_false (by omega)
  have HNN := Lib.hid hnn
  have q4 : IntKind.i64.wrap ((E : Int) - 1) = (E : Int) - 1 := IntWalk.i64_in _ (by omega)
  have HZ := Lib.hid hz
  have HNEW := Lib.hid (fun W => new_in hz W)
  have HE2 := Lib.hid hE2
  clear hp hnn hz hE2
  go_enter Tryd.func3, Tryd.ntmps3
  go_wp2_with fail
  refine (HNEW.out _).mono ?_
  rintro e w1 ⟨b, rfl, hlo, hbs, hk⟩
  have HB1 := Lib.hid (And.intro hlo (And.intro hbs hk))
  clear hlo hbs hk
  go_wp2_with fail
  refine (HNEW.out _).mono ?_
  rintro e w2 ⟨c, rfl, hlo, hbs, hk⟩
  have HH := Lib.hid (show HS k E (freshF k E) (freshF k E) b c w w2 by
    obtain ⟨hlo1, hbs1, hk1⟩ := HB1.out
    have := hbs1.lt
    have := hk1.size
    exact ⟨hbs1.to hk (not_no _), hbs, Best.fresh HZ.out, by omega, hlo1, by omega, hk1.and hk⟩)
  have HCF := Lib.hid (cnt_fresh HZ.out)
  clear hlo hbs hk HB1
  go_wp2_with fail
  go_loopw [9] (fun iv wr => HRel k E b c w iv wr) (fun iv _ => E - (intOf iv).toNat)
  case atStart => exact ⟨0, _, _, rfl, by have := HE2.out; omega, by have := HCF.out; omega, by have := HCF.out; omega, HH.out⟩
  case round =>
    clear HH HCF
    obtain ⟨i, f, g, rfl, hi, hcf, hcg, hh⟩ := hrel
    have HH := Lib.hid hh
    have HCF := Lib.hid hcf
    have HCG := Lib.hid hcg
    clear hh hcf hcg
    by_cases hlt : i + 1 < E
    · have d1 : decide ((i : Int) < (E : Int) - 1) = true := decide_eq_true (by omega)
      have hne : openL k E f (2 ^ k - 1) ≠ [] := openL_ne HZ.out HH.out.bs.wf (by have := HCF.out; omega)
      have hne2 : openL k E g (2 ^ k - 1) ≠ [] := openL_ne HZ.out HH.out.best.wf (by have := HCG.out; omega)
      have HNC := Lib.hid (no_champion HZ.out HH.out.bs.wf (by have := HCF.out; omega))
      have HLT := Lib.hid hlt
      have HNE := Lib.hid hne
      have HNE2 := Lib.hid hne2
      have HOP := Lib.hid (openl_any HH.out.bs)
      clear hlt hi hne hne2
      go_wp2_with fail
      refine HOP.out.mono ?_
      rintro e w3 ⟨v, rfl, hrd, hk⟩
      obtain ⟨qb, off, cp, rfl, hcell⟩ := list_cells hrd HNE.out
      have HH3 := Lib.hid (HH.out.to hk)
      have HCELL := Lib.hid hcell
      obtain ⟨L, hL⟩ : ∃ L, (openL k E f (2 ^ k - 1)).length = L := ⟨_, rfl⟩
      have hL0 : 1 ≤ L := by rw [← hL]; exact List.length_pos_iff.mpr HNE.out
      have hL64 : L ≤ 64 := by rw [← hL]; have := openL_len k E f (2 ^ k - 1); have := HZ.out.le; omega
      have HL := Lib.hid hL
      rw [hL]
      have l1 : (L == 0) = false := by simp; omega
      have l2 : ((L : Int) == 0) = false := by simp; omega
      have HCH := Lib.hid (show Calls Tryd.prog 11 #[.pointer (some ⟨b, 0, none⟩)] w3 fun e w' => e = .returned (.int .i64 (-1)) ∧ w' = w3 from HNC.out ▸ champion_any HH3.out.bs)
      clear hrd hk hcell hL HOP
      go_wp2_with fail
      refine HCH.out.mono ?_
      rintro e w4 ⟨rfl, hk⟩
      have hk := hk.symm
      subst hk
      go_upto_if 80 with (fail)
      go_cut [11] from 61 to 155 (fun nv wx => ∃ N : Nat, nv = .int .i64 (N : Nat) ∧ N ≤ 255 ∧ wx = w3)
      case first =>
        by_cases hin : i < n
        · have d2 : decide (i < n) = true := decide_eq_true hin
          have hps0 : ps ≠ [] := fun e => by have := HNN.out; rw [e] at this; simp at this; omega
          obtain ⟨qp, offp, capp, hpe, hpc⟩ := bytes_cells HPS.out hps0
          obtain ⟨x, hx⟩ : ∃ x, ps[i]? = some x := ⟨_, List.getElem?_eq_getElem (by have := HNN.out; omega)⟩
          have cp := HH3.out.kept.cell (hpc i x hx) (not_no _)
          have had : ad = some ⟨qp, offp, none⟩ := by injection hpe
          subst had
          have hx255 := x.toNat_lt
          obtain ⟨N, hN⟩ : ∃ N, x.toNat = N := ⟨_, rfl⟩
          rw [hN] at cp hx255
          have e1 : IntKind.i64.wrap (N : Int) = (N : Int) := IntWalk.i64_in _ (by omega)
          clear hpe hpc hx hN hps0
          go_wp2_with fail
          go_meet
          exact ⟨N, rfl, by omega, rfl⟩
        · have d2 : decide (i < n) = false := decide_eq_false hin
          go_wp2_with fail
          go_meet
          exact ⟨0, rfl, by omega, rfl⟩
      case rest =>
        obtain ⟨N, rfl, hN, rfl⟩ := hcut
        obtain ⟨q, hq⟩ : ∃ q, N / 2 % L = q := ⟨_, rfl⟩
        have hqL : q < L := by rw [← hq]; exact Nat.mod_lt _ (by omega)
        obtain ⟨m, hm⟩ : ∃ m, (openL k E f (2 ^ k - 1))[q]? = some m := ⟨_, List.getElem?_eq_getElem (by rw [HL.out]; exact hqL)⟩
        have cm := HCELL.out q m hm
        obtain ⟨s, hs⟩ : ∃ s, N % 2 = s := ⟨_, rfl⟩
        have hs1 : s ≤ 1 := by omega
        have hmo := mem_openL.mp (List.mem_of_getElem? hm)
        have e1 : wrap64 ((N : Int) / 2) = (N : Int) / 2 := IntWalk.wrap64_in _ (by omega)
        have e2 : (N : Int) / 2 % (L : Int) = (q : Nat) := by rw [← hq]; simp
        have e3 : (N : Int) % 2 = (s : Nat) := by omega
        have HM := Lib.hid hmo
        have HTX := Lib.hid (text_any HH3.out.bs.drew)
        clear hm hmo hq hs
        have HXM := Lib.hid (show m + 1 < 2 ^ k ∧ openF k E f m = true from ⟨by have := HM.out.1; omega, HM.out.2⟩)
        go_upto_region 16 with (fail)
        go_cut [12, 13] from 61 to 155 (fun mv tv wx => mv = .int .i64 (m : Nat) ∧ tv = .string (strOf (textF k E f)) ∧ HS k E f g b c w wx)
        case first =>
          go_region_with (first | (go_at_call 12; (with_reducible refine HTX.out.mono ?_); rintro e9 wz ⟨rfl, hk⟩; have cm := hk.cell cm (not_no _); have HH3 := Lib.hid (HH3.out.to hk.of_drew); clear hk))
          all_goals
            go_wp2_with fail
            go_meet
            exact ⟨rfl, rfl, HH3.out⟩
        case rest =>
          obtain ⟨rfl, rfl, hh⟩ := hcut
          have HH4 := Lib.hid hh
          clear hh HH3 HTX cm e2
          obtain ⟨hm1, hopen⟩ := HXM.out
          obtain ⟨h0, _, _⟩ := openF_iff.mp hopen
          have hby := open_lt HZ.out hopen hm1
          have HR1 := Lib.hid (fun W (h : HS k E f g b c w W) => (report_open h.bs hm1 hs1 hopen).mono (R' := fun e w' => e = .returned (.int .i64 0) ∧ HS k E (upd f m (s + 1)) g b c w w') fun e w' ⟨he, hb, hk⟩ => ⟨he, h.repb hb hk⟩)
          have HCF2 := Lib.hid (cnt_report (v := s + 1) (show m < 2 ^ k - 1 by omega) h0 (by omega) HCF.out)
          obtain ⟨f1, hf1⟩ : ∃ f1, upd f m (s + 1) = f1 := ⟨_, rfl⟩
          rw [hf1] at HR1 HCF2
          have hback : upd f1 m 0 = f := by rw [← hf1, upd_upd, ← h0, upd_self]
          have hx1 : f1 (nextF k m) = 0 := by
            rw [← hf1, upd_ne _ _ (by have := hm1; unfold nextF; omega)]
            exact next_zero HZ.out HH4.out.bs.wf hm1 h0
          have hf1m : f1 m ≠ 0 := by rw [← hf1, upd_same]; omega
          have HUN := Lib.hid (fun W (h : HS k E f1 g b c w W) => (undo_ok h.bs hm1 hby hf1m hx1).mono (R' := fun e w' => e = .returned (.int .i64 0) ∧ HS k E f g b c w w') fun e w' ⟨he, hb, hk⟩ => ⟨he, h.repb (hback ▸ hb) hk⟩)
          have htn : textF k E f1 ≠ textF k E f := by rw [← hf1]; exact text_ne HZ.out hm1 hopen (by omega)
          have HT0 := Lib.hid (fun W (h : HS k E f g b c w W) => (text_any h.bs).mono (R' := fun e w' => e = .returned (.string (strOf (textF k E f))) ∧ HS k E f g b c w w') fun e w' ⟨he, hk⟩ => ⟨he, h.to hk⟩)
          have HT1 := Lib.hid (fun W (h : HS k E f1 g b c w W) => (text_any h.bs).mono (R' := fun e w' => e = .returned (.string (strOf (textF k E f1))) ∧ HS k E f1 g b c w w') fun e w' ⟨he, hk⟩ => ⟨he, h.to hk⟩)
          have hsn : strOf (textF k E f1) ≠ strOf (textF k E f) := fun e => htn (by
            have := congrArg (fun x : ByteArray => x.data.toList) e
            simpa [strOf] using this)
          obtain ⟨X0, hX0⟩ : ∃ X, strOf (textF k E f) = X := ⟨_, rfl⟩
          obtain ⟨X1, hX1⟩ : ∃ X, strOf (textF k E f1) = X := ⟨_, rfl⟩
          rw [hX0] at HT0 hsn ⊢
          rw [hX1] at HT1 hsn
          have t1 : (X1.toList == X0.toList) = false := by
            rw [ByteArray.toList_eq, ByteArray.toList_eq, beq_eq_false_iff_ne]
            intro e
            exact hsn (ByteArray.ext (Array.toList_inj.mp e))
          have HOP2 := Lib.hid (fun W (h : HS k E f1 g b c w W) => openl_any h.bg)
          clear hm1 hopen h0 hby hback hx1 hf1m htn hsn hX0 hX1 hf1 hs1
          go_wp2_with fail
          refine (HR1.out _ HH4.out).mono ?_
          rintro e w4 ⟨rfl, hh⟩
          have HH5 := Lib.hid hh
          clear hh
          go_wp2_with fail
          refine (HT1.out _ HH5.out).mono ?_
          rintro e w5 ⟨rfl, hh⟩
          have HH6 := Lib.hid hh
          clear hh
          go_wp2_with fail
          refine (HUN.out _ HH6.out).mono ?_
          rintro e w6 ⟨rfl, hh⟩
          have HH7 := Lib.hid hh
          clear hh
          go_wp2_with fail
          refine (HT0.out _ HH7.out).mono ?_
          rintro e w7 ⟨rfl, hh⟩
          have HH8 := Lib.hid hh
          clear hh
          go_wp2_with fail
          refine (HR1.out _ HH8.out).mono ?_
          rintro e w8 ⟨rfl, hh⟩
          have HH9 := Lib.hid hh
          clear hh HH4 HH5 HH6 HH7 HH8 HT0 HT1 HUN HR1
          go_wp2_with fail
          refine (HOP2.out _ HH9.out).mono ?_
          rintro e w9 ⟨v, rfl, hrd, hk⟩
          obtain ⟨qc, offc, cpc, rfl, hcell2⟩ := list_cells hrd HNE2.out
          have HHA := Lib.hid (HH9.out.to hk)
          obtain ⟨L2, hL2⟩ : ∃ L, (openL k E g (2 ^ k - 1)).length = L := ⟨_, rfl⟩
          have hL20 : 1 ≤ L2 := by rw [← hL2]; exact List.length_pos_iff.mpr HNE2.out
          obtain ⟨m2, hm2⟩ : ∃ m2, (openL k E g (2 ^ k - 1))[0]? = some m2 := ⟨_, List.getElem?_eq_getElem (by omega)⟩
          have hmo2 := mem_openL.mp (List.mem_of_getElem? hm2)
          have hm21 : m2 + 1 < 2 ^ k := by omega
          have cm2 : w9.cell? ⟨qc, offc, none⟩ = some (.int .i64 (m2 : Nat)) := by have := hcell2 0 m2 hm2; rw [Nat.add_zero] at this; exact this
          rw [hL2]
          have l3 : (L2 == 0) = false := by simp; omega
          have l4 : ((L2 : Int) == 0) = false := by simp; omega
          obtain ⟨⟨x, y⟩, hxy⟩ : ∃ s, seatsF k E g m2 = s := ⟨_, rfl⟩
          have hless := HHA.out.best.less HZ.out hm21 hmo2.2
          rw [hxy] at hless
          have t2 : decide (y < x) = false := decide_eq_false (by have : x < y := hless; omega)
          have HSE := Lib.hid (show Calls Tryd.prog 15 #[.pointer (some ⟨c, 0, none⟩), .int .i64 (m2 : Nat)] w9 fun e w' => e = .returned (.tuple #[.int .i64 x, .int .i64 y, .int .i64 0]) ∧ w' = w9 by
            have := seats_in HHA.out.bg hm21
            rw [hxy] at this
            exact this)
          have HRC := Lib.hid ((report_open (s := 0) HHA.out.bg hm21 (by decide) hmo2.2).mono (R' := fun e w' => e = .returned (.int .i64 0) ∧ HS k E f1 (upd g m2 1) b c w w') fun e w' ⟨he, hb, hk⟩ => ⟨he, HHA.out.repc hb (HHA.out.best.report HZ.out hm21 hmo2.2) hk⟩)
          have HCG2 := Lib.hid (cnt_report (v := 1) (show m2 < 2 ^ k - 1 by omega) (openF_iff.mp hmo2.2).1 (by decide) HCG.out)
          clear hrd hk hcell2 hm2 hmo2 hm21 hxy hless hL2 HOP2
          go_wp2_with fail
          refine HSE.out.mono ?_
          rintro e wa ⟨rfl, hk⟩
          have hk := hk.symm
          subst hk
          go_wp2_with fail
          refine HRC.out.mono ?_
          rintro e wb ⟨rfl, hh⟩
          have HHB := Lib.hid (show HRel k E b c w (.int .i64 ((i + 1 : Nat) : Int)) wb from ⟨i + 1, f1, upd g m2 1, rfl, by have := HLT.out; omega, HCF2.out, HCG2.out, hh⟩)
          clear hh
          have q9 : IntKind.i64.wrap ((i : Int) + 1) = (i : Int) + 1 := IntWalk.i64_in _ (by have := HLT.out; omega)
          go_wp2_with fail
          go_roundw
          case rel => first | exact HHB.out | ((repeat apply Exists.intro); exact ⟨HHB.out, rfl⟩)
          case measure => have := HLT.out; simp [intOf]; omega
    · have d1 : decide ((i : Int) < (E : Int) - 1) = false := decide_eq_false (by omega)
      have hcf0 : cntF f (2 ^ k - 1) = 0 := by have := HCF.out; omega
      have hcg0 : cntF g (2 ^ k - 1) = 0 := by have := HCG.out; omega
      have hallf := all_won HZ.out HH.out.bs.wf hcf0
      have hallg := all_won HZ.out HH.out.best.wf hcg0
      have hk1 := HZ.out.one
      have hk6 := HZ.out.six
      have hS2 := pow_le' hk1
      have hch0 : 0 ≤ winF k E f (2 ^ k - 2) := HH.out.bs.wf.win HZ.out (by omega) (cnt_zero hcf0 _ (by omega))
      obtain ⟨e0, p0, he0, hel, hep, hpl⟩ := win_entr hk1 (by omega) hch0
      have hfin := fun (e p : Nat) (hp : seedK k p = e) (pl : p < 2 ^ k) => rank_final hk1 hp pl hallf
      rw [he0] at hfin
      have HFIN := Lib.hid hfin
      have htop : rankF k E f e0 p0 = (k : Int) := (hfin e0 p0 hep hpl).2.2.mpr rfl
      have HCHF := Lib.hid (fun W (h : HS k E f g b c w W) => (show Calls Tryd.prog 11 #[.pointer (some ⟨b, 0, none⟩)] W fun e w' => e = .returned (.int .i64 (e0 : Nat)) ∧ w' = W from he0 ▸ champion_any h.bs))
      have HRKF := Lib.hid (fun W (h : HS k E f g b c w W) => (show Calls Tryd.prog 16 #[.pointer (some ⟨b, 0, none⟩), .int .i64 (e0 : Nat)] W fun e w' => e = .returned (.tuple #[.int .i64 (k : Nat), .int .i64 0]) ∧ w' = W from htop ▸ rank_in h.bs hel hep hpl))
      have HOPF := Lib.hid (fun W (h : HS k E f g b c w W) => (show Calls Tryd.prog 10 #[.pointer (some ⟨b, 0, none⟩)] W (ListPost [] W) from openL_nil (k := k) (E := E) hcf0 ▸ openl_any h.bs))
      have HRKG := Lib.hid (fun W (h : HS k E f g b c w W) => (show Calls Tryd.prog 16 #[.pointer (some ⟨c, 0, none⟩), .int .i64 1] W fun e w' => e = .returned (.tuple #[.int .i64 ((k : Int) - 1), .int .i64 0]) ∧ w' = W from HH.out.best.rank_one HZ.out hallg ▸ rank_in h.bg (e := 1) (p := 2 ^ (k - 1)) (by have := HE2.out; omega) (place_one k hk1) (by have := pow_split (show 0 < k by omega); have := Nat.one_le_two_pow (n := k - 1); simp at *; omega)))
      have HCHG := Lib.hid (fun W (h : HS k E f g b c w W) => (show Calls Tryd.prog 11 #[.pointer (some ⟨c, 0, none⟩)] W fun e w' => e = .returned (.int .i64 0) ∧ w' = W from HH.out.best.champion HZ.out hallg ▸ champion_any h.bg))
      have q8 : IntKind.i64.wrap ((k : Int) - 1) = (k : Int) - 1 := IntWalk.i64_in _ (by omega)
      have hk64 : k ≤ 64 := by omega
      clear hcf0 hcg0 hallf hallg hk1 hk6 hS2 hch0 he0 hel hep hpl hfin htop hlt hi
      go_wp2_with fail
      refine (HCHF.out _ HH.out).mono ?_
      rintro e w3 ⟨rfl, hk⟩
      have hk := hk.symm
      subst hk
      go_wp2_with fail
      refine (HRKF.out _ HH.out).mono ?_
      rintro e w3 ⟨rfl, hk⟩
      have hk := hk.symm
      subst hk
      go_wp2_with fail
      refine (HOPF.out _ HH.out).mono ?_
      rintro e w3 ⟨v, rfl, hrd, hk⟩
      obtain ⟨ad2, cap2, rfl⟩ := rd_slice hrd
      have HH2 := Lib.hid (HH.out.to hk)
      clear hrd hk
      go_wp2_with fail
      go_loopw [21] (fun jv wz => ∃ j : Nat, jv = .int .i64 (j : Nat) ∧ j ≤ E ∧ HS k E f g b c w wz) (fun jv _ => E - (intOf jv).toNat)
      case atStart => exact ⟨0, rfl, Nat.zero_le _, HH2.out⟩
      case round =>
        obtain ⟨j, rfl, hj, hh⟩ := hrel
        have HHJ := Lib.hid hh
        clear hh HH2
        by_cases hlt : j < E
        · have d2 : decide (j < E) = true := decide_eq_true hlt
          obtain ⟨p, pl, hp⟩ := place_of HZ.out hlt
          have hr := rank_in HHJ.out.bs hlt hp pl
          obtain ⟨r0, rk, riff⟩ := HFIN.out j p hp pl
          obtain ⟨r, hre⟩ : ∃ r, rankF k E f j p = r := ⟨_, rfl⟩
          rw [hre] at hr r0 rk riff
          have HRJ := Lib.hid hr
          have t1 : decide (r < 0) = false := decide_eq_false (by omega)
          have q9 : IntKind.i64.wrap ((j : Int) + 1) = (j : Int) + 1 := IntWalk.i64_in _ (by omega)
          have HLT := Lib.hid hlt
          by_cases hje : j = e0
          · have t2 : (j != e0) = false := by simpa using hje
            have t3 : ((j : Int) != (e0 : Int)) = false := by simp; omega
            clear hr hre riff r0 rk hlt hp pl hje hj
            go_wp2_with fail
            refine HRJ.out.mono ?_
            rintro e w4 ⟨rfl, hk⟩
            have hk := hk.symm
            subst hk
            go_wp2_with fail
            have := HLT.out
            exact ⟨⟨j + 1, by go_num, by omega, HHJ.out⟩, by simp [intOf]; omega⟩
          · have t2 : (j != e0) = true := by simpa using hje
            have t3 : ((j : Int) != (e0 : Int)) = true := by simp; omega
            have t4 : decide ((k : Int) ≤ r) = false := decide_eq_false (fun h => hje (by have := riff.mp (by omega); omega))
            clear hr hre riff r0 rk hlt hp pl hje hj
            go_wp2_with fail
            refine HRJ.out.mono ?_
            rintro e w4 ⟨rfl, hk⟩
            have hk := hk.symm
            subst hk
            go_wp2_with fail
            have := HLT.out
            exact ⟨⟨j + 1, by go_num, by omega, HHJ.out⟩, by simp [intOf]; omega⟩
        · have d2 : decide (j < E) = false := decide_eq_false hlt
          clear hlt hj
          go_wp2_with fail
          refine (HRKG.out _ HHJ.out).mono ?_
          rintro e w4 ⟨rfl, hk⟩
          have hk := hk.symm
          subst hk
          go_wp2_with fail
          refine (HCHG.out _ HHJ.out).mono ?_
          rintro e w4 ⟨rfl, hk⟩
          have hk := hk.symm
          subst hk
          go_wp2_with fail
          refine (known_any _).mono ?_
          rintro e w5 ⟨rfl, hk⟩
          have HKE := Lib.hid (HHJ.out.kept.and hk)
          clear hk
          go_wp2_with fail
          go_ret
          exact ⟨rfl, HKE.out⟩
end Go.Proofs.YtphlpclhmodekaaDoor
