/-
  IdentHolds: the walk, joined.
-/
import Derived.Test.YtkdienebinnopaaDoorWalkP
namespace Go.Proofs.YtkdienebinnopaaDoor
open Go.RowKit Go.Zn Go.Shelf
attribute [local go_sem] Oper.semAt_some

set_option maxRecDepth 100000 in
theorem holds_bad (a : Int) (L : Nat) (ad : Option Addr) (cap : Nat) (w : World) (hl : Laid w) (h : a < 1 ∨ 200 < a ∨ 100 < L) : Calls Tryd.prog 4 #[.int .i64 a, .slice ad L cap] w fun e w' => e = .returned (.bool true) ∧ Kept No w w' := by
  have HL := Lib.hid hl
  clear hl
  by_cases h1 : a < 1
  · clear h
    go_enter Tryd.func4, Tryd.ntmps4
    go_wp2_with fail
    refine (known_any _ HL.out).mono ?_
    rintro e w' ⟨rfl, hk⟩
    have HK := Lib.hid hk
    clear hk
    go_wp2_with fail
    go_ret
    exact ⟨rfl, HK.out⟩
  · by_cases h2 : 200 < a
    · clear h
      go_enter Tryd.func4, Tryd.ntmps4
      go_wp2_with fail
      refine (known_any _ HL.out).mono ?_
      rintro e w' ⟨rfl, hk⟩
      have HK := Lib.hid hk
      clear hk
      go_wp2_with fail
      go_ret
      exact ⟨rfl, HK.out⟩
    · have d1 : decide ((100 : Int) < (L : Int)) = true := by simp; omega
      clear h
      go_enter Tryd.func4, Tryd.ntmps4
      go_wp2_with fail
      refine (known_any _ HL.out).mono ?_
      rintro e w' ⟨rfl, hk⟩
      have HK := Lib.hid hk
      clear hk
      go_wp2_with fail
      go_ret
      exact ⟨rfl, HK.out⟩
def HRel (w : World) (b tb mb n L : Nat) (cv i : Value) (wr : World) : Prop :=
  ∃ (j : Nat) (D : DataW Unit) (s : Int → Bool) (c : Int), i = .int .i64 (j : Nat) ∧ cv = .int .i64 c ∧ c = (cnt (hd s) n : Nat) ∧ j ≤ L ∧ HR w b tb mb n j D s wr
set_option maxRecDepth 100000 in
set_option maxHeartbeats 12800000 in
theorem holds_ok (n L : Nat) (v : Value) (X : Nat → Int × Int) (w : World) (hl : Laid w) (h1 : 1 ≤ n) (h2 : n ≤ 200) (h3 : L ≤ 100) (harg : Acts w v L X) : Calls Tryd.prog 4 #[.int .i64 (n : Nat), v] w fun e w' => e = .returned (.bool true) ∧ Kept No w w' := by
  obtain ⟨ad, cap, rfl⟩ := harg.slice
  have HL := Lib.hid hl
  have HA := Lib.hid harg
  have hmm := @run_makeMap Tryd.prog
  have d0 : decide ((n : Int) < 1) = false := by simp; omega
  have d1 : decide ((200 : Int) < (n : Int)) = false := by simp; omega
  have d2 : decide ((100 : Int) < (L : Int)) = false := by simp; omega
  clear hl harg
  go_enter Tryd.func4, Tryd.ntmps4
  go_wp2_with fail
  refine (st_new w _ (Kept.refl No w) n h1 (by omega)).mono ?_
  rintro e w1 ⟨b, tb, rfl, hs, -, -⟩
  have HS := Lib.hid hs
  clear hs d0 d1 d2
  go_wp2_with fail
  have hbm := bm_new w1
  have hs2 := HS.out.no ((Kept.refl No w1).alloc (.map #[] 0))
  have hlt1 := HS.out.ids.lt
  have hmw : w.heap.size ≤ w1.heap.size := HS.out.kept.size
  obtain ⟨w2, hw2⟩ : ∃ w2, w1.alloc (.map #[] 0) = w2 := ⟨_, rfl⟩
  obtain ⟨mb, hmb⟩ : ∃ mb, w1.heap.size = mb := ⟨_, rfl⟩
  rw [hw2] at hbm hs2 ⊢
  rw [hmb] at hbm hlt1 hmw ⊢
  have HF0 := Lib.hid (show HR w b tb mb n 0 (.map []) (fun _ => false) w2 from ⟨hs2, hbm, says_none, fun x h => by (cases h), by omega⟩)
  clear hw2 hmb hbm hs2 hlt1 hmw hmm
  go_loopw [8, 44] (fun c i wr => HRel w b tb mb n L c i wr) (fun _ i _ => L - (intOf i).toNat)
  case atStart =>
    have hc0 : ∀ m, cnt (hd fun _ => false) m = 0 := fun m => by
      induction m with
      | zero => rfl
      | succ m ih => show cnt (hd fun _ => false) m + 0 = 0; omega
    exact ⟨0, _, _, 0, rfl, rfl, by rw [hc0]; rfl, Nat.zero_le _, HF0.out⟩
  case round =>
    obtain ⟨j, D, s, c, rfl, rfl, hc, hj, hf⟩ := hrel
    have hcn : cnt (hd s) n ≤ n := cnt_le _ _
    have hc0 : 0 ≤ c := by omega
    have hc1 : c ≤ (n : Int) := by omega
    have hc2 : c ≤ 200 := by omega
    have hni : (n : Int) ≤ 200 := by omega
    have HC := Lib.hid hc
    have HF2 := Lib.hid hf
    have HJ := Lib.hid hj
    have hjL : (j : Int) ≤ 100 := by omega
    clear hf hj hc hcn HF0
    by_cases hlt : j < L
    · have d3 : decide (j < L) = true := by simp; exact hlt
      obtain ⟨ab, off, cap', x, y, hv, g1, g2, hwy⟩ := HA.out.at HF2.out.st.kept hlt
      cases hv
      have HLT := Lib.hid hlt
      have hjn : (0 : Int) ≤ (j : Int) := by omega
      have hjl : (j : Int) < (L : Int) := by omega
      have hltb := HF2.out.st.ids.lt
      have hltm := bm_lt HF2.out.bm
      obtain ⟨w3, hw3⟩ : ∃ w3, wr.alloc (.cells #[.int .i64 x, .int .i64 y] 35) = w3 := ⟨_, rfl⟩
      obtain ⟨bx, hbx⟩ : ∃ bx, wr.heap.size = bx := ⟨_, rfl⟩
      have hb3 : w3.heap[bx]? = some (.cells #[.int .i64 x, .int .i64 y] 35 (0, 0)) := by rw [← hw3]; exact World.alloc_at hbx.symm _
      have HF3 := Lib.hid (show HR w b tb mb n j D s w3 from HF2.out.no (by rw [← hw3]; exact (Kept.refl No wr).alloc _))
      have q0 := obj_cell hb3 0
      have q1 := obj_cell hb3 1
      have HBX := Lib.hid (show bx ≠ tb ∧ bx ≠ mb by omega)
      have HB3 := Lib.hid hb3
      rw [hbx] at hltb hltm
      clear hlt hltb hltm hb3
      by_cases x0 : x = 0
      · subst x0
        go_wp2_with fail
        refine (take_st HF3.out HL.out).mono ?_
        rintro e w4 (⟨i, hlf, rfl, hi4, hk4⟩ | ⟨hat, rfl, rfl⟩)
        · have hst4 := HF3.out.st.put hi4 hk4
          have hsi : s (i : Nat) = false := hlf.2.2.1
          have hclt : cnt (hd s) n < n := cnt_lt hlf.1 hlf.2.1 hlf.2.2.1
          have HB4 := Lib.hid (bm_kept HF3.out.bm hk4 (fun e => HF3.out.nb.2.1 e.symm))
          have hall : ∀ m : Nat, 1 ≤ m → m < i → s (m : Nat) = true := hlf.2.2.2
          obtain ⟨iz, hiz⟩ : ∃ iz : Int, ((i : Nat) : Int) = iz := ⟨_, rfl⟩
          have z1 : 1 ≤ iz := by have := hlf.1; omega
          have z2 : iz ≤ (n : Int) := by have := hlf.2.1; omega
          have z3 : iz ≤ 200 := by omega
          have hit : i = iz.toNat := by omega
          have hwz : Wf iz := by unfold Wf; omega
          rw [hiz] at hsi ⊢
          rw [hit] at hst4
          have hlook := bm_look HB4.out HF3.out.says iz hwz
          rw [hsi] at hlook
          have e1 : decide (c < (n : Int)) = true := by have := HC.out; simp; omega
          have e2 : decide ((n : Int) < iz) = false := by simp; omega
          have HALL := Lib.hid (show ∀ m : Nat, 1 ≤ m → (m : Int) < iz → s (m : Nat) = true from fun m h1 h2 => hall m h1 (by omega))
          have HST4 := Lib.hid hst4
          have HSI := Lib.hid hsi
          clear hlf hi4 hk4 hst4 hsi hclt hall hiz hit q0 q1
          go_wp2_with fail
          go_loopw [13] (fun k wr' => (∃ m : Nat, k = .int .i64 (m : Nat) ∧ 1 ≤ m ∧ (m : Int) ≤ iz) ∧ wr' = w4) (fun k _ => iz.toNat - (intOf k).toNat)
          case atStart => exact ⟨⟨1, rfl, Nat.le_refl _, z1⟩, rfl⟩
          case round =>
            obtain ⟨⟨m, rfl, hm1, hm2⟩, hwr⟩ := hrel
            subst hwr
            have hm3 : (1 : Int) ≤ (m : Int) := by omega
            have hm4 : (m : Int) ≤ 200 := by omega
            by_cases hmz : (m : Int) < iz
            · have hlk := bm_look HB4.out HF3.out.says (m : Nat) (by unfold Wf; omega)
              rw [HALL.out m hm1 hmz] at hlk
              have e3 : decide ((m : Int) < iz) = true := by simp; exact hmz
              clear hlook
              go_wp2_with fail
              exact ⟨⟨⟨m + 1, by go_num, by omega, by omega⟩, trivial⟩, by simp [intOf]; omega⟩
            · have e3 : decide ((m : Int) < iz) = false := by simp; omega
              obtain ⟨w5, hrun5, hb5, hk5⟩ := bm_set HB4.out (by have := HLT.out; unfold maxLen; omega) iz hwz true
              have HF := Lib.hid (HF3.out.set iz z1 z2 true HST4.out hb5 hk5)
              have HCN := Lib.hid (show ((cnt (hd (mput s iz true)) n : Nat) : Int) = c + 1 by rw [hd_on z1 z2 HSI.out]; have := HC.out; omega)
              clear hb5 hk5 hmz hm1 hm2 hm3 hm4 hlook
              go_wp2_with fail
              refine (st_len HF.out.st).mono ?_
              rintro e w6 ⟨rfl, hs6, hk6⟩
              have HF6 := Lib.hid (HF.out.bk hs6 hk6)
              rw [HCN.out]
              clear hs6 hk6
              go_wp2_with fail
              refine (st_room HF6.out.st ((n : Int) - (c + 1)) (by rw [HCN.out])).mono ?_
              rintro e w7 ⟨rfl, hs7, hk7⟩
              have HF7 := Lib.hid (HF6.out.bk hs7 hk7)
              have hlt7 := HF7.out.st.ids.lt
              have hmb7 := bm_lt HF7.out.bm
              have hw7 := HF7.out.st.kept.size
              obtain ⟨w8, hrng, hrm, hg8, hsz8⟩ := World.ownsMap.range HF7.out.bm keyed3 Tryd.underlying30
              obtain ⟨r, hr⟩ : ∃ r, w7.heap.size = r := ⟨_, rfl⟩
              rw [hr] at hrng hrm hlt7 hmb7 hw7
              have HF8 := Lib.hid (HF7.out.no ((Kept.refl No w7).grown hg8 (fun k e _ => by cases e)))
              have HRM := Lib.hid hrm
              have HN := Lib.hid (show b ≠ r ∧ tb ≠ r ∧ mb ≠ r ∧ w.heap.size ≤ r by omega)
              clear hs7 hk7 hrm hg8 hsz8 hr hlt7 hmb7 hw7
              go_wp2_with fail
              go_loopw [162] (fun _ wr' => ∃ (left : Lit → Bool) (cn : Nat), RM wr' mb r (j + 1) (D.put (.int .i64 iz) (.lit (.bool true))) left cn ∧ HR w b tb mb n (j + 1) (D.put (.int .i64 iz) (.lit (.bool true))) (mput s iz true) wr') (fun _ w' => w'.rangeLeft mb r)
              case atStart => exact ⟨_, _, HRM.out, HF8.out⟩
              case round =>
                obtain ⟨left, cn, hrm, hh⟩ := hrel
                have HRM2 := Lib.hid hrm
                have HH := Lib.hid hh
                rcases bm_next hrm hh.says 0 with hrun | ⟨xx, yy, w9, left', cn', hy, hrun, hrm9, hlt9, hk9, hen⟩
                · clear hrm hh
                  go_wp2_with fail
                  have q1 := HLT.out
                  exact ⟨⟨j + 1, (D.put (.int .i64 iz) (.lit (.bool true))), (mput s iz true), c + 1, by go_num, rfl, HCN.out.symm, by omega, HH.out⟩, by simp [intOf]; omega⟩
                · have HF9 := Lib.hid (hh.off hk9 HN.out)
                  have HRM9 := Lib.hid hrm9
                  have HLT9 := Lib.hid hlt9
                  have HY := Lib.hid hy
                  have dy : (yy != yy) = false := by simp
                  clear hrm hh hrm9 hlt9 hk9 hy
                  go_wp2_with fail
                  refine (st_has HF9.out.st xx).mono ?_
                  rintro e w10 ⟨rfl, hs10, hk10⟩
                  rw [HF9.out.has, ← HY.out]
                  have HRM10 := Lib.hid (rm_kept HRM9.out hk10 (fun e => HF9.out.nb.2.1 e.symm) (fun e => HN.out.2.1 e.symm))
                  have HF10 := Lib.hid (HF9.out.bk hs10 hk10)
                  clear hs10 hk10
                  go_wp2_with fail
                  exact ⟨⟨left', cn', HRM10.out, HF10.out⟩, by rw [World.ranges.left_eq HRM10.out, World.ranges.left_eq HRM2.out]; exact HLT9.out⟩
        · have hcn : cnt (hd s) n = n := cnt_full hat
          have e1 : decide (c < (n : Int)) = false := by have := HC.out; simp; omega
          have HF := Lib.hid HF3.out.up
          have HCN := Lib.hid HC.out.symm
          clear hat hcn q0 q1
          go_wp2_with fail
          refine (st_len HF.out.st).mono ?_
          rintro e w6 ⟨rfl, hs6, hk6⟩
          have HF6 := Lib.hid (HF.out.bk hs6 hk6)
          rw [HCN.out]
          clear hs6 hk6
          go_wp2_with fail
          refine (st_room HF6.out.st ((n : Int) - (c)) (by rw [HCN.out])).mono ?_
          rintro e w7 ⟨rfl, hs7, hk7⟩
          have HF7 := Lib.hid (HF6.out.bk hs7 hk7)
          have hlt7 := HF7.out.st.ids.lt
          have hmb7 := bm_lt HF7.out.bm
          have hw7 := HF7.out.st.kept.size
          obtain ⟨w8, hrng, hrm, hg8, hsz8⟩ := World.ownsMap.range HF7.out.bm keyed3 Tryd.underlying30
          obtain ⟨r, hr⟩ : ∃ r, w7.heap.size = r := ⟨_, rfl⟩
          rw [hr] at hrng hrm hlt7 hmb7 hw7
          have HF8 := Lib.hid (HF7.out.no ((Kept.refl No w7).grown hg8 (fun k e _ => by cases e)))
          have HRM := Lib.hid hrm
          have HN := Lib.hid (show b ≠ r ∧ tb ≠ r ∧ mb ≠ r ∧ w.heap.size ≤ r by omega)
          clear hs7 hk7 hrm hg8 hsz8 hr hlt7 hmb7 hw7
          go_wp2_with fail
          go_loopw [162] (fun _ wr' => ∃ (left : Lit → Bool) (cn : Nat), RM wr' mb r (j + 1) D left cn ∧ HR w b tb mb n (j + 1) D s wr') (fun _ w' => w'.rangeLeft mb r)
          case atStart => exact ⟨_, _, HRM.out, HF8.out⟩
          case round =>
            obtain ⟨left, cn, hrm, hh⟩ := hrel
            have HRM2 := Lib.hid hrm
            have HH := Lib.hid hh
            rcases bm_next hrm hh.says 0 with hrun | ⟨xx, yy, w9, left', cn', hy, hrun, hrm9, hlt9, hk9, hen⟩
            · clear hrm hh
              go_wp2_with fail
              have q1 := HLT.out
              exact ⟨⟨j + 1, D, s, c, by go_num, rfl, HCN.out.symm, by omega, HH.out⟩, by simp [intOf]; omega⟩
            · have HF9 := Lib.hid (hh.off hk9 HN.out)
              have HRM9 := Lib.hid hrm9
              have HLT9 := Lib.hid hlt9
              have HY := Lib.hid hy
              have dy : (yy != yy) = false := by simp
              clear hrm hh hrm9 hlt9 hk9 hy
              go_wp2_with fail
              refine (st_has HF9.out.st xx).mono ?_
              rintro e w10 ⟨rfl, hs10, hk10⟩
              rw [HF9.out.has, ← HY.out]
              have HRM10 := Lib.hid (rm_kept HRM9.out hk10 (fun e => HF9.out.nb.2.1 e.symm) (fun e => HN.out.2.1 e.symm))
              have HF10 := Lib.hid (HF9.out.bk hs10 hk10)
              clear hs10 hk10
              go_wp2_with fail
              exact ⟨⟨left', cn', HRM10.out, HF10.out⟩, by rw [World.ranges.left_eq HRM10.out, World.ranges.left_eq HRM2.out]; exact HLT9.out⟩
      · by_cases x1 : x = 1
        · subst x1
          go_wp2_with fail
          refine (st_claim HF3.out.st y).mono ?_
          rintro e w4 ⟨rfl, hs4, hk4⟩
          have c4 := hk4.cell q1 (fun e => HBX.out.1 e)
          have HB4 := Lib.hid (bm_kept HF3.out.bm hk4 (fun e => HF3.out.nb.2.1 e.symm))
          have hcl := HF3.out.claim y
          have hlook := bm_look HB4.out HF3.out.says y hwy
          clear q0 q1
          by_cases hy : 1 ≤ y ∧ y ≤ n
          · rw [if_pos hy] at hcl
            obtain ⟨y1, y2⟩ := hy
            have y3 : y ≤ 200 := by omega
            have e1 : decide (y ≤ (n : Int)) = true := by simp; exact y2
            cases hsy : s y
            · rw [hsy] at hcl hlook
              have hc0' : claimC (hd s) n y = 0 := hcl
              have ht : claimT (hd s) n y = put (hd s) y.toNat true := by unfold claimT; rw [if_pos hc0']
              rw [ht] at hs4
              rw [hc0']
              obtain ⟨w5, hrun5, hb5, hk5⟩ := bm_set HB4.out (by have := HLT.out; unfold maxLen; omega) y hwy true
              have c5 := hk5.cell c4 (fun e => HBX.out.2 e)
              have HF := Lib.hid (HF3.out.set y y1 y2 true hs4 hb5 hk5)
              have HCN := Lib.hid (show ((cnt (hd (mput s y true)) n : Nat) : Int) = c + 1 by rw [hd_on y1 y2 hsy]; have := HC.out; omega)
              clear hb5 hk5 hs4 hk4 hsy hcl hc0' ht
              go_wp2_with fail
              refine (st_len HF.out.st).mono ?_
              rintro e w6 ⟨rfl, hs6, hk6⟩
              have HF6 := Lib.hid (HF.out.bk hs6 hk6)
              rw [HCN.out]
              clear hs6 hk6
              go_wp2_with fail
              refine (st_room HF6.out.st ((n : Int) - (c + 1)) (by rw [HCN.out])).mono ?_
              rintro e w7 ⟨rfl, hs7, hk7⟩
              have HF7 := Lib.hid (HF6.out.bk hs7 hk7)
              have hlt7 := HF7.out.st.ids.lt
              have hmb7 := bm_lt HF7.out.bm
              have hw7 := HF7.out.st.kept.size
              obtain ⟨w8, hrng, hrm, hg8, hsz8⟩ := World.ownsMap.range HF7.out.bm keyed3 Tryd.underlying30
              obtain ⟨r, hr⟩ : ∃ r, w7.heap.size = r := ⟨_, rfl⟩
              rw [hr] at hrng hrm hlt7 hmb7 hw7
              have HF8 := Lib.hid (HF7.out.no ((Kept.refl No w7).grown hg8 (fun k e _ => by cases e)))
              have HRM := Lib.hid hrm
              have HN := Lib.hid (show b ≠ r ∧ tb ≠ r ∧ mb ≠ r ∧ w.heap.size ≤ r by omega)
              clear hs7 hk7 hrm hg8 hsz8 hr hlt7 hmb7 hw7
              go_wp2_with fail
              go_loopw [162] (fun _ wr' => ∃ (left : Lit → Bool) (cn : Nat), RM wr' mb r (j + 1) (D.put (.int .i64 y) (.lit (.bool true))) left cn ∧ HR w b tb mb n (j + 1) (D.put (.int .i64 y) (.lit (.bool true))) (mput s y true) wr') (fun _ w' => w'.rangeLeft mb r)
              case atStart => exact ⟨_, _, HRM.out, HF8.out⟩
              case round =>
                obtain ⟨left, cn, hrm, hh⟩ := hrel
                have HRM2 := Lib.hid hrm
                have HH := Lib.hid hh
                rcases bm_next hrm hh.says 0 with hrun | ⟨xx, yy, w9, left', cn', hy, hrun, hrm9, hlt9, hk9, hen⟩
                · clear hrm hh
                  go_wp2_with fail
                  have q1 := HLT.out
                  exact ⟨⟨j + 1, (D.put (.int .i64 y) (.lit (.bool true))), (mput s y true), c + 1, by go_num, rfl, HCN.out.symm, by omega, HH.out⟩, by simp [intOf]; omega⟩
                · have HF9 := Lib.hid (hh.off hk9 HN.out)
                  have HRM9 := Lib.hid hrm9
                  have HLT9 := Lib.hid hlt9
                  have HY := Lib.hid hy
                  have dy : (yy != yy) = false := by simp
                  clear hrm hh hrm9 hlt9 hk9 hy
                  go_wp2_with fail
                  refine (st_has HF9.out.st xx).mono ?_
                  rintro e w10 ⟨rfl, hs10, hk10⟩
                  rw [HF9.out.has, ← HY.out]
                  have HRM10 := Lib.hid (rm_kept HRM9.out hk10 (fun e => HF9.out.nb.2.1 e.symm) (fun e => HN.out.2.1 e.symm))
                  have HF10 := Lib.hid (HF9.out.bk hs10 hk10)
                  clear hs10 hk10
                  go_wp2_with fail
                  exact ⟨⟨left', cn', HRM10.out, HF10.out⟩, by rw [World.ranges.left_eq HRM10.out, World.ranges.left_eq HRM2.out]; exact HLT9.out⟩
            · rw [hsy] at hcl hlook
              have hc0' : claimC (hd s) n y = 11 := hcl
              have ht : claimT (hd s) n y = hd s := by unfold claimT; rw [hc0']; rfl
              rw [ht] at hs4
              rw [hc0']
              have HF := Lib.hid (HF3.out.bk hs4 hk4).up
              have HCN := Lib.hid HC.out.symm
              clear hs4 hk4 hsy hcl hc0' ht
              go_wp2_with fail
              refine (st_len HF.out.st).mono ?_
              rintro e w6 ⟨rfl, hs6, hk6⟩
              have HF6 := Lib.hid (HF.out.bk hs6 hk6)
              rw [HCN.out]
              clear hs6 hk6
              go_wp2_with fail
              refine (st_room HF6.out.st ((n : Int) - (c)) (by rw [HCN.out])).mono ?_
              rintro e w7 ⟨rfl, hs7, hk7⟩
              have HF7 := Lib.hid (HF6.out.bk hs7 hk7)
              have hlt7 := HF7.out.st.ids.lt
              have hmb7 := bm_lt HF7.out.bm
              have hw7 := HF7.out.st.kept.size
              obtain ⟨w8, hrng, hrm, hg8, hsz8⟩ := World.ownsMap.range HF7.out.bm keyed3 Tryd.underlying30
              obtain ⟨r, hr⟩ : ∃ r, w7.heap.size = r := ⟨_, rfl⟩
              rw [hr] at hrng hrm hlt7 hmb7 hw7
              have HF8 := Lib.hid (HF7.out.no ((Kept.refl No w7).grown hg8 (fun k e _ => by cases e)))
              have HRM := Lib.hid hrm
              have HN := Lib.hid (show b ≠ r ∧ tb ≠ r ∧ mb ≠ r ∧ w.heap.size ≤ r by omega)
              clear hs7 hk7 hrm hg8 hsz8 hr hlt7 hmb7 hw7
              go_wp2_with fail
              go_loopw [162] (fun _ wr' => ∃ (left : Lit → Bool) (cn : Nat), RM wr' mb r (j + 1) D left cn ∧ HR w b tb mb n (j + 1) D s wr') (fun _ w' => w'.rangeLeft mb r)
              case atStart => exact ⟨_, _, HRM.out, HF8.out⟩
              case round =>
                obtain ⟨left, cn, hrm, hh⟩ := hrel
                have HRM2 := Lib.hid hrm
                have HH := Lib.hid hh
                rcases bm_next hrm hh.says 0 with hrun | ⟨xx, yy, w9, left', cn', hy, hrun, hrm9, hlt9, hk9, hen⟩
                · clear hrm hh
                  go_wp2_with fail
                  have q1 := HLT.out
                  exact ⟨⟨j + 1, D, s, c, by go_num, rfl, HCN.out.symm, by omega, HH.out⟩, by simp [intOf]; omega⟩
                · have HF9 := Lib.hid (hh.off hk9 HN.out)
                  have HRM9 := Lib.hid hrm9
                  have HLT9 := Lib.hid hlt9
                  have HY := Lib.hid hy
                  have dy : (yy != yy) = false := by simp
                  clear hrm hh hrm9 hlt9 hk9 hy
                  go_wp2_with fail
                  refine (st_has HF9.out.st xx).mono ?_
                  rintro e w10 ⟨rfl, hs10, hk10⟩
                  rw [HF9.out.has, ← HY.out]
                  have HRM10 := Lib.hid (rm_kept HRM9.out hk10 (fun e => HF9.out.nb.2.1 e.symm) (fun e => HN.out.2.1 e.symm))
                  have HF10 := Lib.hid (HF9.out.bk hs10 hk10)
                  clear hs10 hk10
                  go_wp2_with fail
                  exact ⟨⟨left', cn', HRM10.out, HF10.out⟩, by rw [World.ranges.left_eq HRM10.out, World.ranges.left_eq HRM2.out]; exact HLT9.out⟩
          · rw [if_neg hy] at hcl
            have ht : claimT (hd s) n y = hd s := by unfold claimT; rw [hcl]; rfl
            rw [ht] at hs4
            rw [hcl]
            have HF := Lib.hid (HF3.out.bk hs4 hk4).up
            have HCN := Lib.hid HC.out.symm
            clear hs4 hk4 hcl ht
            by_cases y1 : 1 ≤ y
            · have e1 : decide (y ≤ (n : Int)) = false := by simp; omega
              clear hy
              go_wp2_with fail
              refine (st_len HF.out.st).mono ?_
              rintro e w6 ⟨rfl, hs6, hk6⟩
              have HF6 := Lib.hid (HF.out.bk hs6 hk6)
              rw [HCN.out]
              clear hs6 hk6
              go_wp2_with fail
              refine (st_room HF6.out.st ((n : Int) - (c)) (by rw [HCN.out])).mono ?_
              rintro e w7 ⟨rfl, hs7, hk7⟩
              have HF7 := Lib.hid (HF6.out.bk hs7 hk7)
              have hlt7 := HF7.out.st.ids.lt
              have hmb7 := bm_lt HF7.out.bm
              have hw7 := HF7.out.st.kept.size
              obtain ⟨w8, hrng, hrm, hg8, hsz8⟩ := World.ownsMap.range HF7.out.bm keyed3 Tryd.underlying30
              obtain ⟨r, hr⟩ : ∃ r, w7.heap.size = r := ⟨_, rfl⟩
              rw [hr] at hrng hrm hlt7 hmb7 hw7
              have HF8 := Lib.hid (HF7.out.no ((Kept.refl No w7).grown hg8 (fun k e _ => by cases e)))
              have HRM := Lib.hid hrm
              have HN := Lib.hid (show b ≠ r ∧ tb ≠ r ∧ mb ≠ r ∧ w.heap.size ≤ r by omega)
              clear hs7 hk7 hrm hg8 hsz8 hr hlt7 hmb7 hw7
              go_wp2_with fail
              go_loopw [162] (fun _ wr' => ∃ (left : Lit → Bool) (cn : Nat), RM wr' mb r (j + 1) D left cn ∧ HR w b tb mb n (j + 1) D s wr') (fun _ w' => w'.rangeLeft mb r)
              case atStart => exact ⟨_, _, HRM.out, HF8.out⟩
              case round =>
                obtain ⟨left, cn, hrm, hh⟩ := hrel
                have HRM2 := Lib.hid hrm
                have HH := Lib.hid hh
                rcases bm_next hrm hh.says 0 with hrun | ⟨xx, yy, w9, left', cn', hy, hrun, hrm9, hlt9, hk9, hen⟩
                · clear hrm hh
                  go_wp2_with fail
                  have q1 := HLT.out
                  exact ⟨⟨j + 1, D, s, c, by go_num, rfl, HCN.out.symm, by omega, HH.out⟩, by simp [intOf]; omega⟩
                · have HF9 := Lib.hid (hh.off hk9 HN.out)
                  have HRM9 := Lib.hid hrm9
                  have HLT9 := Lib.hid hlt9
                  have HY := Lib.hid hy
                  have dy : (yy != yy) = false := by simp
                  clear hrm hh hrm9 hlt9 hk9 hy
                  go_wp2_with fail
                  refine (st_has HF9.out.st xx).mono ?_
                  rintro e w10 ⟨rfl, hs10, hk10⟩
                  rw [HF9.out.has, ← HY.out]
                  have HRM10 := Lib.hid (rm_kept HRM9.out hk10 (fun e => HF9.out.nb.2.1 e.symm) (fun e => HN.out.2.1 e.symm))
                  have HF10 := Lib.hid (HF9.out.bk hs10 hk10)
                  clear hs10 hk10
                  go_wp2_with fail
                  exact ⟨⟨left', cn', HRM10.out, HF10.out⟩, by rw [World.ranges.left_eq HRM10.out, World.ranges.left_eq HRM2.out]; exact HLT9.out⟩
            · clear hy
              go_wp2_with fail
              refine (st_len HF.out.st).mono ?_
              rintro e w6 ⟨rfl, hs6, hk6⟩
              have HF6 := Lib.hid (HF.out.bk hs6 hk6)
              rw [HCN.out]
              clear hs6 hk6
              go_wp2_with fail
              refine (st_room HF6.out.st ((n : Int) - (c)) (by rw [HCN.out])).mono ?_
              rintro e w7 ⟨rfl, hs7, hk7⟩
              have HF7 := Lib.hid (HF6.out.bk hs7 hk7)
              have hlt7 := HF7.out.st.ids.lt
              have hmb7 := bm_lt HF7.out.bm
              have hw7 := HF7.out.st.kept.size
              obtain ⟨w8, hrng, hrm, hg8, hsz8⟩ := World.ownsMap.range HF7.out.bm keyed3 Tryd.underlying30
              obtain ⟨r, hr⟩ : ∃ r, w7.heap.size = r := ⟨_, rfl⟩
              rw [hr] at hrng hrm hlt7 hmb7 hw7
              have HF8 := Lib.hid (HF7.out.no ((Kept.refl No w7).grown hg8 (fun k e _ => by cases e)))
              have HRM := Lib.hid hrm
              have HN := Lib.hid (show b ≠ r ∧ tb ≠ r ∧ mb ≠ r ∧ w.heap.size ≤ r by omega)
              clear hs7 hk7 hrm hg8 hsz8 hr hlt7 hmb7 hw7
              go_wp2_with fail
              go_loopw [162] (fun _ wr' => ∃ (left : Lit → Bool) (cn : Nat), RM wr' mb r (j + 1) D left cn ∧ HR w b tb mb n (j + 1) D s wr') (fun _ w' => w'.rangeLeft mb r)
              case atStart => exact ⟨_, _, HRM.out, HF8.out⟩
              case round =>
                obtain ⟨left, cn, hrm, hh⟩ := hrel
                have HRM2 := Lib.hid hrm
                have HH := Lib.hid hh
                rcases bm_next hrm hh.says 0 with hrun | ⟨xx, yy, w9, left', cn', hy, hrun, hrm9, hlt9, hk9, hen⟩
                · clear hrm hh
                  go_wp2_with fail
                  have q1 := HLT.out
                  exact ⟨⟨j + 1, D, s, c, by go_num, rfl, HCN.out.symm, by omega, HH.out⟩, by simp [intOf]; omega⟩
                · have HF9 := Lib.hid (hh.off hk9 HN.out)
                  have HRM9 := Lib.hid hrm9
                  have HLT9 := Lib.hid hlt9
                  have HY := Lib.hid hy
                  have dy : (yy != yy) = false := by simp
                  clear hrm hh hrm9 hlt9 hk9 hy
                  go_wp2_with fail
                  refine (st_has HF9.out.st xx).mono ?_
                  rintro e w10 ⟨rfl, hs10, hk10⟩
                  rw [HF9.out.has, ← HY.out]
                  have HRM10 := Lib.hid (rm_kept HRM9.out hk10 (fun e => HF9.out.nb.2.1 e.symm) (fun e => HN.out.2.1 e.symm))
                  have HF10 := Lib.hid (HF9.out.bk hs10 hk10)
                  clear hs10 hk10
                  go_wp2_with fail
                  exact ⟨⟨left', cn', HRM10.out, HF10.out⟩, by rw [World.ranges.left_eq HRM10.out, World.ranges.left_eq HRM2.out]; exact HLT9.out⟩
        · by_cases x2 : x = 2
          · subst x2
            go_wp2_with fail
            refine (st_free HF3.out.st y).mono ?_
            rintro e w4 ⟨rfl, hs4, hk4⟩
            have c4 := hk4.cell q1 (fun e => HBX.out.1 e)
            have HB4 := Lib.hid (bm_kept HF3.out.bm hk4 (fun e => HF3.out.nb.2.1 e.symm))
            have hcl := HF3.out.free y
            have hlook := bm_look HB4.out HF3.out.says y hwy
            clear q0 q1
            cases hsy : s y
            · have hcn0 : freeC (hd s) n y ≠ 0 := by
                rw [hcl, hsy]
                by_cases hy : 1 ≤ y ∧ y ≤ n
                · rw [if_pos hy]; decide
                · rw [if_neg hy]; decide
              have ht : freeT (hd s) n y = hd s := by unfold freeT; rw [if_neg hcn0]
              have e2 : (freeC (hd s) n y == 0) = false := by rw [beq_eq_false_iff_ne]; exact hcn0
              rw [ht] at hs4
              rw [hsy] at hlook
              obtain ⟨fc, hfc⟩ : ∃ fc, freeC (hd s) n y = fc := ⟨_, rfl⟩
              rw [hfc] at e2 ⊢
              have HF := Lib.hid (HF3.out.bk hs4 hk4).up
              have HCN := Lib.hid HC.out.symm
              clear hs4 hk4 hsy hcl ht hcn0 hfc
              go_wp2_with fail
              refine (st_len HF.out.st).mono ?_
              rintro e w6 ⟨rfl, hs6, hk6⟩
              have HF6 := Lib.hid (HF.out.bk hs6 hk6)
              rw [HCN.out]
              clear hs6 hk6
              go_wp2_with fail
              refine (st_room HF6.out.st ((n : Int) - (c)) (by rw [HCN.out])).mono ?_
              rintro e w7 ⟨rfl, hs7, hk7⟩
              have HF7 := Lib.hid (HF6.out.bk hs7 hk7)
              have hlt7 := HF7.out.st.ids.lt
              have hmb7 := bm_lt HF7.out.bm
              have hw7 := HF7.out.st.kept.size
              obtain ⟨w8, hrng, hrm, hg8, hsz8⟩ := World.ownsMap.range HF7.out.bm keyed3 Tryd.underlying30
              obtain ⟨r, hr⟩ : ∃ r, w7.heap.size = r := ⟨_, rfl⟩
              rw [hr] at hrng hrm hlt7 hmb7 hw7
              have HF8 := Lib.hid (HF7.out.no ((Kept.refl No w7).grown hg8 (fun k e _ => by cases e)))
              have HRM := Lib.hid hrm
              have HN := Lib.hid (show b ≠ r ∧ tb ≠ r ∧ mb ≠ r ∧ w.heap.size ≤ r by omega)
              clear hs7 hk7 hrm hg8 hsz8 hr hlt7 hmb7 hw7
              go_wp2_with fail
              go_loopw [162] (fun _ wr' => ∃ (left : Lit → Bool) (cn : Nat), RM wr' mb r (j + 1) D left cn ∧ HR w b tb mb n (j + 1) D s wr') (fun _ w' => w'.rangeLeft mb r)
              case atStart => exact ⟨_, _, HRM.out, HF8.out⟩
              case round =>
                obtain ⟨left, cn, hrm, hh⟩ := hrel
                have HRM2 := Lib.hid hrm
                have HH := Lib.hid hh
                rcases bm_next hrm hh.says 0 with hrun | ⟨xx, yy, w9, left', cn', hy, hrun, hrm9, hlt9, hk9, hen⟩
                · clear hrm hh
                  go_wp2_with fail
                  have q1 := HLT.out
                  exact ⟨⟨j + 1, D, s, c, by go_num, rfl, HCN.out.symm, by omega, HH.out⟩, by simp [intOf]; omega⟩
                · have HF9 := Lib.hid (hh.off hk9 HN.out)
                  have HRM9 := Lib.hid hrm9
                  have HLT9 := Lib.hid hlt9
                  have HY := Lib.hid hy
                  have dy : (yy != yy) = false := by simp
                  clear hrm hh hrm9 hlt9 hk9 hy
                  go_wp2_with fail
                  refine (st_has HF9.out.st xx).mono ?_
                  rintro e w10 ⟨rfl, hs10, hk10⟩
                  rw [HF9.out.has, ← HY.out]
                  have HRM10 := Lib.hid (rm_kept HRM9.out hk10 (fun e => HF9.out.nb.2.1 e.symm) (fun e => HN.out.2.1 e.symm))
                  have HF10 := Lib.hid (HF9.out.bk hs10 hk10)
                  clear hs10 hk10
                  go_wp2_with fail
                  exact ⟨⟨left', cn', HRM10.out, HF10.out⟩, by rw [World.ranges.left_eq HRM10.out, World.ranges.left_eq HRM2.out]; exact HLT9.out⟩
            · obtain ⟨y1, y2⟩ := HF3.out.only y hsy
              rw [if_pos ⟨y1, y2⟩, hsy] at hcl
              have hc0' : freeC (hd s) n y = 0 := hcl
              have ht : freeT (hd s) n y = put (hd s) y.toNat false := by unfold freeT; rw [if_pos hc0']
              rw [ht] at hs4
              rw [hsy] at hlook
              rw [hc0']
              obtain ⟨w5, hrun5, hb5, hk5⟩ := bm_set HB4.out (by have := HLT.out; unfold maxLen; omega) y hwy false
              have c5 := hk5.cell c4 (fun e => HBX.out.2 e)
              have HF := Lib.hid (HF3.out.set y y1 y2 false hs4 hb5 hk5)
              have hoff := hd_off y1 y2 hsy
              have HCN := Lib.hid (show ((cnt (hd (mput s y false)) n : Nat) : Int) = c - 1 by have := HC.out; omega)
              have hc3 : 1 ≤ c := by have := HC.out; omega
              clear hb5 hk5 hs4 hk4 hsy hcl hc0' ht hoff
              go_wp2_with fail
              refine (st_len HF.out.st).mono ?_
              rintro e w6 ⟨rfl, hs6, hk6⟩
              have HF6 := Lib.hid (HF.out.bk hs6 hk6)
              rw [HCN.out]
              clear hs6 hk6
              go_wp2_with fail
              refine (st_room HF6.out.st ((n : Int) - (c - 1)) (by rw [HCN.out])).mono ?_
              rintro e w7 ⟨rfl, hs7, hk7⟩
              have HF7 := Lib.hid (HF6.out.bk hs7 hk7)
              have hlt7 := HF7.out.st.ids.lt
              have hmb7 := bm_lt HF7.out.bm
              have hw7 := HF7.out.st.kept.size
              obtain ⟨w8, hrng, hrm, hg8, hsz8⟩ := World.ownsMap.range HF7.out.bm keyed3 Tryd.underlying30
              obtain ⟨r, hr⟩ : ∃ r, w7.heap.size = r := ⟨_, rfl⟩
              rw [hr] at hrng hrm hlt7 hmb7 hw7
              have HF8 := Lib.hid (HF7.out.no ((Kept.refl No w7).grown hg8 (fun k e _ => by cases e)))
              have HRM := Lib.hid hrm
              have HN := Lib.hid (show b ≠ r ∧ tb ≠ r ∧ mb ≠ r ∧ w.heap.size ≤ r by omega)
              clear hs7 hk7 hrm hg8 hsz8 hr hlt7 hmb7 hw7
              go_wp2_with fail
              go_loopw [162] (fun _ wr' => ∃ (left : Lit → Bool) (cn : Nat), RM wr' mb r (j + 1) (D.put (.int .i64 y) (.lit (.bool false))) left cn ∧ HR w b tb mb n (j + 1) (D.put (.int .i64 y) (.lit (.bool false))) (mput s y false) wr') (fun _ w' => w'.rangeLeft mb r)
              case atStart => exact ⟨_, _, HRM.out, HF8.out⟩
              case round =>
                obtain ⟨left, cn, hrm, hh⟩ := hrel
                have HRM2 := Lib.hid hrm
                have HH := Lib.hid hh
                rcases bm_next hrm hh.says 0 with hrun | ⟨xx, yy, w9, left', cn', hy, hrun, hrm9, hlt9, hk9, hen⟩
                · clear hrm hh
                  go_wp2_with fail
                  have q1 := HLT.out
                  exact ⟨⟨j + 1, (D.put (.int .i64 y) (.lit (.bool false))), (mput s y false), c - 1, by go_num, rfl, HCN.out.symm, by omega, HH.out⟩, by simp [intOf]; omega⟩
                · have HF9 := Lib.hid (hh.off hk9 HN.out)
                  have HRM9 := Lib.hid hrm9
                  have HLT9 := Lib.hid hlt9
                  have HY := Lib.hid hy
                  have dy : (yy != yy) = false := by simp
                  clear hrm hh hrm9 hlt9 hk9 hy
                  go_wp2_with fail
                  refine (st_has HF9.out.st xx).mono ?_
                  rintro e w10 ⟨rfl, hs10, hk10⟩
                  rw [HF9.out.has, ← HY.out]
                  have HRM10 := Lib.hid (rm_kept HRM9.out hk10 (fun e => HF9.out.nb.2.1 e.symm) (fun e => HN.out.2.1 e.symm))
                  have HF10 := Lib.hid (HF9.out.bk hs10 hk10)
                  clear hs10 hk10
                  go_wp2_with fail
                  exact ⟨⟨left', cn', HRM10.out, HF10.out⟩, by rw [World.ranges.left_eq HRM10.out, World.ranges.left_eq HRM2.out]; exact HLT9.out⟩
          · have HF := Lib.hid HF3.out.up
            have HCN := Lib.hid HC.out.symm
            clear q1
            go_wp2_with fail
            refine (st_len HF.out.st).mono ?_
            rintro e w6 ⟨rfl, hs6, hk6⟩
            have HF6 := Lib.hid (HF.out.bk hs6 hk6)
            rw [HCN.out]
            clear hs6 hk6
            go_wp2_with fail
            refine (st_room HF6.out.st ((n : Int) - (c)) (by rw [HCN.out])).mono ?_
            rintro e w7 ⟨rfl, hs7, hk7⟩
            have HF7 := Lib.hid (HF6.out.bk hs7 hk7)
            have hlt7 := HF7.out.st.ids.lt
            have hmb7 := bm_lt HF7.out.bm
            have hw7 := HF7.out.st.kept.size
            obtain ⟨w8, hrng, hrm, hg8, hsz8⟩ := World.ownsMap.range HF7.out.bm keyed3 Tryd.underlying30
            obtain ⟨r, hr⟩ : ∃ r, w7.heap.size = r := ⟨_, rfl⟩
            rw [hr] at hrng hrm hlt7 hmb7 hw7
            have HF8 := Lib.hid (HF7.out.no ((Kept.refl No w7).grown hg8 (fun k e _ => by cases e)))
            have HRM := Lib.hid hrm
            have HN := Lib.hid (show b ≠ r ∧ tb ≠ r ∧ mb ≠ r ∧ w.heap.size ≤ r by omega)
            clear hs7 hk7 hrm hg8 hsz8 hr hlt7 hmb7 hw7
            go_wp2_with fail
            go_loopw [162] (fun _ wr' => ∃ (left : Lit → Bool) (cn : Nat), RM wr' mb r (j + 1) D left cn ∧ HR w b tb mb n (j + 1) D s wr') (fun _ w' => w'.rangeLeft mb r)
            case atStart => exact ⟨_, _, HRM.out, HF8.out⟩
            case round =>
              obtain ⟨left, cn, hrm, hh⟩ := hrel
              have HRM2 := Lib.hid hrm
              have HH := Lib.hid hh
              rcases bm_next hrm hh.says 0 with hrun | ⟨xx, yy, w9, left', cn', hy, hrun, hrm9, hlt9, hk9, hen⟩
              · clear hrm hh
                go_wp2_with fail
                have q1 := HLT.out
                exact ⟨⟨j + 1, D, s, c, by go_num, rfl, HCN.out.symm, by omega, HH.out⟩, by simp [intOf]; omega⟩
              · have HF9 := Lib.hid (hh.off hk9 HN.out)
                have HRM9 := Lib.hid hrm9
                have HLT9 := Lib.hid hlt9
                have HY := Lib.hid hy
                have dy : (yy != yy) = false := by simp
                clear hrm hh hrm9 hlt9 hk9 hy
                go_wp2_with fail
                refine (st_has HF9.out.st xx).mono ?_
                rintro e w10 ⟨rfl, hs10, hk10⟩
                rw [HF9.out.has, ← HY.out]
                have HRM10 := Lib.hid (rm_kept HRM9.out hk10 (fun e => HF9.out.nb.2.1 e.symm) (fun e => HN.out.2.1 e.symm))
                have HF10 := Lib.hid (HF9.out.bk hs10 hk10)
                clear hs10 hk10
                go_wp2_with fail
                exact ⟨⟨left', cn', HRM10.out, HF10.out⟩, by rw [World.ranges.left_eq HRM10.out, World.ranges.left_eq HRM2.out]; exact HLT9.out⟩
    · obtain rfl : j = L := by have := HJ.out; omega
      have d3 : decide (j < j) = false := by simp
      clear hlt
      go_wp2_with fail
      refine (known_any _ (HF2.out.st.laid HL.out)).mono ?_
      rintro e w' ⟨rfl, hk⟩
      have HK := Lib.hid hk
      clear hk
      go_wp2_with fail
      go_ret
      exact ⟨rfl, HF2.out.st.kept.and HK.out⟩
end Go.Proofs.YtkdienebinnopaaDoor
