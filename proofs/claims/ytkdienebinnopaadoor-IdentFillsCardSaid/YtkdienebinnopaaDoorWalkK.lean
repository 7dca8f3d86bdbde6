/-
  IdentFills: the walk, joined.
-/
import Derived.Test.YtkdienebinnopaaDoorWalkJ
namespace Go.Proofs.YtkdienebinnopaaDoor
open Go.RowKit Go.Zn Go.Shelf
attribute [local go_sem] Oper.semAt_some

def BoolPost (w : World) (e : Ending) (w' : World) : Prop := e = .returned (.bool true) ∧ Kept No w w'
theorem fills_bad (a : Int) (L : Nat) (ad : Option Addr) (cap : Nat) (w : World) (hl : Laid w) (h : a < 1 ∨ 4096 < a ∨ 30 < L) : Calls Tryd.prog 3 #[.int .i64 a, .slice ad L cap] w (BoolPost w) := by
  have HL := Lib.hid hl
  clear hl
  by_cases h1 : a < 1
  · clear h
    go_enter Tryd.func3, Tryd.ntmps3
    go_wp2_with fail
    refine (known_any _ HL.out).mono ?_
    rintro e w' ⟨rfl, hk⟩
    have HK := Lib.hid hk
    clear hk
    go_wp2_with fail
    go_ret
    exact ⟨rfl, HK.out⟩
  · by_cases h2 : 4096 < a
    · clear h
      go_enter Tryd.func3, Tryd.ntmps3
      go_wp2_with fail
      refine (known_any _ HL.out).mono ?_
      rintro e w' ⟨rfl, hk⟩
      have HK := Lib.hid hk
      clear hk
      go_wp2_with fail
      go_ret
      exact ⟨rfl, HK.out⟩
    · have d1 : decide ((30 : Int) < (L : Int)) = true := by simp; omega
      clear h
      go_enter Tryd.func3, Tryd.ntmps3
      go_wp2_with fail
      refine (known_any _ HL.out).mono ?_
      rintro e w' ⟨rfl, hk⟩
      have HK := Lib.hid hk
      clear hk
      go_wp2_with fail
      go_ret
      exact ⟨rfl, HK.out⟩
def TRel1 (w : World) (b tb n : Nat) (i : Value) (wr : World) : Prop := ∃ j : Nat, i = .int .i64 (j : Nat) ∧ 1 ≤ j ∧ j ≤ n + 1 ∧ St w b tb n (tkn j) wr
def FRel2 (w : World) (b tb mb n L : Nat) (i : Value) (wr : World) : Prop := ∃ (j : Nat) (D : DataW Unit) (s : Int → Bool) (sz : Nat), i = .int .i64 (j : Nat) ∧ j ≤ L ∧ FRel w b tb mb n j D s sz wr
def FRel3 (w : World) (b tb mb n L : Nat) (D : DataW Unit) (s : Int → Bool) (i : Value) (wr : World) : Prop := ∃ (j : Nat), i = .int .i64 (j : Nat) ∧ 1 ≤ j ∧ j ≤ n + 1 ∧ St w b tb n (rtd n s j) wr ∧ BM wr mb L D
set_option maxRecDepth 100000 in
set_option maxHeartbeats 6400000 in
theorem fills_ok (n L : Nat) (v : Value) (zs : List Int) (w : World) (hl : Laid w) (h1 : 1 ≤ n) (h2 : n ≤ 4096) (h3 : L ≤ 30) (harg : Arg w v L zs) : Calls Tryd.prog 3 #[.int .i64 (n : Nat), v] w (BoolPost w) := by
  obtain ⟨ad, cap, rfl⟩ := harg.slice
  have HL := Lib.hid hl
  have HA := Lib.hid harg
  have hmm := @run_makeMap Tryd.prog
  have d0 : decide ((n : Int) < 1) = false := by simp; omega
  have d1 : decide ((4096 : Int) < (n : Int)) = false := by simp; omega
  have d2 : decide ((30 : Int) < (L : Int)) = false := by simp; omega
  clear hl harg
  go_enter Tryd.func3, Tryd.ntmps3
  go_wp2_with fail
  refine (st_new w _ (Kept.refl No w) n h1 h2).mono ?_
  rintro e w' ⟨b, tb, rfl, hs, -⟩
  have HS := Lib.hid hs
  clear hs d0 d1
  go_wp2_with fail
  go_loopw [7] (fun i wr => TRel1 w b tb n i wr) (fun i _ => n + 1 - (intOf i).toNat)
  case atStart => exact ⟨1, rfl, Nat.le_refl _, by omega, by rw [tkn_one]; exact HS.out⟩
  case round =>
    obtain ⟨j, rfl, hj1, hj2, hs1⟩ := hrel
    have HS1 := Lib.hid hs1
    have HJ1 := Lib.hid hj1
    have HJ2 := Lib.hid hj2
    have hji : (j : Int) ≤ 4097 := by omega
    have hji1 : (1 : Int) ≤ (j : Int) := by omega
    clear hs1 HS hj1 hj2
    by_cases hlt : j ≤ n
    · have d3 : decide (j ≤ n) = true := by simp; exact hlt
      have HLT := Lib.hid hlt
      clear hlt
      go_wp2_with fail
      refine (st_takes HS1.out HL.out j (tkn_least j n HJ1.out HLT.out) (j : Nat) rfl).mono ?_
      rintro e w1 ⟨rfl, hs2, -⟩
      rw [tkn_put j HJ1.out] at hs2
      have HS2 := Lib.hid hs2
      clear hs2
      go_wp2_with fail
      have q1 := HLT.out
      exact ⟨⟨j + 1, by go_num, by omega, by omega, HS2.out⟩, by simp [intOf]; omega⟩
    · obtain rfl : j = n + 1 := by have := HJ2.out; omega
      have d3 : decide (n + 1 ≤ n) = false := by simp
      have HA1 := Lib.hid (tkn_all n)
      have hcn : cnt (tkn (n + 1)) n = n := cnt_full (tkn_all n)
      have HC := Lib.hid hcn
      clear hlt hcn
      go_wp2_with fail
      refine (st_full HS1.out HL.out HA1.out).mono ?_
      rintro e w1 ⟨rfl, hs2, -⟩
      have HS2 := Lib.hid hs2
      clear hs2
      go_wp2_with fail
      refine (st_len HS2.out).mono ?_
      rintro e w2 ⟨rfl, hs3, -⟩
      rw [HC.out]
      have HS3 := Lib.hid hs3
      clear hs3
      go_wp2_with fail
      refine (st_room HS3.out 0 (by rw [HC.out]; omega)).mono ?_
      rintro e w3 ⟨rfl, hs4, -⟩
      have HS4 := Lib.hid hs4
      clear hs4
      go_wp2_with fail
      have hbm := bm_new w3
      have hs5 := HS4.out.no ((Kept.refl No w3).alloc (.map #[] 0))
      have hlt4 := HS4.out.ids.lt
      have hmw : w.heap.size ≤ w3.heap.size := HS4.out.kept.size
      obtain ⟨w4, hw4⟩ : ∃ w4, w3.alloc (.map #[] 0) = w4 := ⟨_, rfl⟩
      obtain ⟨mb, hmb⟩ : ∃ mb, w3.heap.size = mb := ⟨_, rfl⟩
      rw [hw4] at hbm hs5 ⊢
      rw [hmb] at hbm hlt4 hmw ⊢
      have HM := Lib.hid (show b ≠ mb ∧ tb ≠ mb ∧ w.heap.size ≤ mb by omega)
      have HF := Lib.hid (show FRel w b tb mb n 0 (.map []) (fun _ => false) 0 w4 from ⟨by rw [← frd_start]; exact hs5, hbm, says_none, counts_none, fun x h => by (cases h), by rw [← frd_start, HC.out]; rfl⟩)
      clear hw4 hmb hbm hs5 hlt4 hmw
      go_loopw [62] (fun i wr => FRel2 w b tb mb n L i wr) (fun i _ => L - (intOf i).toNat)
      case atStart => exact ⟨0, _, _, _, rfl, Nat.zero_le _, HF.out⟩
      case round =>
        obtain ⟨j, D, s, sz, rfl, hj, hf⟩ := hrel
        have HF2 := Lib.hid hf
        have HJ := Lib.hid hj
        have hjl : (j : Int) ≤ 30 := by omega
        clear hf hj HF
        by_cases hlt : j < L
        · have d4 : decide (j < L) = true := by simp; exact hlt
          have HLT := Lib.hid hlt
          clear hlt
          obtain ⟨ab, off, cap', x, hv, g1, hwx⟩ := HA.out.at HF2.out.st.kept HLT.out
          cases hv
          have hjn : (0 : Int) ≤ (j : Int) := by omega
          have hjL : (j : Int) < (L : Int) := by have := HLT.out; omega
          have hfc := HF2.out.free x
          by_cases x1 : x < 1
          · rw [if_neg (by omega)] at hfc
            have HFC := Lib.hid hfc
            clear hfc
            go_wp2_with fail
            refine (st_free HF2.out.st x).mono ?_
            rintro e w5 ⟨rfl, hs5, hk5⟩
            have HN := Lib.hid (HF2.out.same HM.out.2.1 x (by rw [HFC.out]; decide) hs5 hk5)
            rw [HFC.out]
            clear hs5 hk5
            go_wp2_with fail
            have q1 := HLT.out
            exact ⟨⟨j + 1, D, s, sz, by go_num, by omega, HN.out⟩, by simp [intOf]; omega⟩
          · by_cases x2 : (n : Int) < x
            · rw [if_neg (by omega)] at hfc
              have d5 : decide ((n : Int) < x) = true := by simp; exact x2
              have HFC := Lib.hid hfc
              clear hfc
              go_wp2_with fail
              refine (st_free HF2.out.st x).mono ?_
              rintro e w5 ⟨rfl, hs5, hk5⟩
              have HN := Lib.hid (HF2.out.same HM.out.2.1 x (by rw [HFC.out]; decide) hs5 hk5)
              rw [HFC.out]
              clear hs5 hk5
              go_wp2_with fail
              have q1 := HLT.out
              exact ⟨⟨j + 1, D, s, sz, by go_num, by omega, HN.out⟩, by simp [intOf]; omega⟩
            · rw [if_pos (by omega)] at hfc
              have d5 : decide ((n : Int) < x) = false := by simp; omega
              have hlook := bm_look HF2.out.bm HF2.out.says x hwx
              cases hsx : s x
              · rw [hsx] at hlook hfc
                have HSX := Lib.hid hsx
                have HFC := Lib.hid hfc
                clear hfc hsx
                go_wp2_with fail
                refine (st_free HF2.out.st x).mono ?_
                rintro e w5 ⟨rfl, hs5, hk5⟩
                have hne := HM.out.2.1
                obtain ⟨w6, hrun, hb6, hk6⟩ := bm_set (bm_kept HF2.out.bm hk5 (fun e => hne e.symm)) (by have := HJ.out; unfold maxLen; omega) x hwx true
                have HN := Lib.hid (HF2.out.step HM.out x (by omega) (by omega) HSX.out hs5 hb6 hk6)
                have e0 : freeC (frd n s) n x = 0 := HFC.out
                rw [e0]
                clear hs5 hk5 hb6 hk6
                go_wp2_with fail
                have q1 := HLT.out
                exact ⟨⟨j + 1, _, _, sz + 1, by go_num, by omega, HN.out⟩, by simp [intOf]; omega⟩
              · rw [hsx] at hlook hfc
                have HFC := Lib.hid hfc
                clear hfc hsx
                go_wp2_with fail
                refine (st_free HF2.out.st x).mono ?_
                rintro e w5 ⟨rfl, hs5, hk5⟩
                have e0 : freeC (frd n s) n x = 9 := HFC.out
                have HN := Lib.hid (HF2.out.same HM.out.2.1 x (by rw [e0]; decide) hs5 hk5)
                rw [e0]
                clear hs5 hk5
                go_wp2_with fail
                have q1 := HLT.out
                exact ⟨⟨j + 1, D, s, sz, by go_num, by omega, HN.out⟩, by simp [intOf]; omega⟩
        · obtain rfl : j = L := by have := HJ.out; omega
          have d4 : decide (j < j) = false := by simp
          clear hlt
          go_wp2_with fail
          refine (st_room HF2.out.st sz (by have := HF2.out.sum; omega)).mono ?_
          rintro e w5 ⟨rfl, hs5, hk5⟩
          have hlen := bm_len (bm_kept HF2.out.bm hk5 (fun e => HM.out.2.1 e.symm)) HF2.out.counts
          have HS5 := Lib.hid hs5
          have HB5 := Lib.hid (bm_kept HF2.out.bm hk5 (fun e => HM.out.2.1 e.symm))
          clear hs5 hk5
          go_wp2_with fail
          have HS6 := Lib.hid (show St w b tb n (rtd n s 1) w5 by rw [← rtd_start]; exact HS5.out)
          go_loopw [12] (fun i wr => FRel3 w b tb mb n j D s i wr) (fun i _ => n + 1 - (intOf i).toNat)
          case atStart => exact ⟨1, rfl, Nat.le_refl _, by omega, HS6.out, HB5.out⟩
          case round =>
            obtain ⟨m, rfl, hm1, hm2, hs7, hb7⟩ := hrel
            have HS7 := Lib.hid hs7
            have HB7 := Lib.hid hb7
            have HM1 := Lib.hid hm1
            have HM2 := Lib.hid hm2
            have hmi : (m : Int) ≤ 4097 := by omega
            have hmi1 : (1 : Int) ≤ (m : Int) := by omega
            clear hs7 hb7 HS6 HB5 HS5 hm1 hm2
            by_cases hlt : m ≤ n
            · have d6 : decide (m ≤ n) = true := by simp; exact hlt
              have HLT := Lib.hid hlt
              have hlook := bm_look HB7.out HF2.out.says (m : Nat) (by unfold Wf; omega)
              clear hlt
              cases hsx : s (m : Nat)
              · rw [hsx] at hlook
                have HSX := Lib.hid hsx
                clear hsx
                go_wp2_with fail
                have q1 := HLT.out
                exact ⟨⟨m + 1, by go_num, by omega, by omega, by rw [← rtd_skip n s m HSX.out]; exact HS7.out, HB7.out⟩, by simp [intOf]; omega⟩
              · rw [hsx] at hlook
                have HSX := Lib.hid hsx
                clear hsx
                go_wp2_with fail
                refine (st_takes HS7.out HL.out m (rtd_least n s m HM1.out HLT.out HSX.out) (m : Nat) rfl).mono ?_
                rintro e w8 ⟨rfl, hs8, hk8⟩
                rw [rtd_put n s m HM1.out HLT.out] at hs8
                have hne := HM.out.2.1
                have HB8 := Lib.hid (bm_kept HB7.out hk8 (fun e => hne e.symm))
                have HS8 := Lib.hid hs8
                clear hs8 hk8 hlook
                go_wp2_with fail
                have q1 := HLT.out
                exact ⟨⟨m + 1, by go_num, by omega, by omega, HS8.out, HB8.out⟩, by simp [intOf]; omega⟩
            · obtain rfl : m = n + 1 := by have := HM2.out; omega
              have d6 : decide (n + 1 ≤ n) = false := by simp
              clear hlt
              go_wp2_with fail
              refine (st_full HS7.out HL.out (rtd_all n s)).mono ?_
              rintro e w8 ⟨rfl, hs8, -⟩
              have HS8 := Lib.hid hs8
              clear hs8
              go_wp2_with fail
              refine (known_any _ (HS8.out.laid HL.out)).mono ?_
              rintro e w9 ⟨rfl, hk9⟩
              have HK9 := Lib.hid hk9
              clear hk9
              go_wp2_with fail
              go_ret
              exact ⟨rfl, HS8.out.kept.and HK9.out⟩
end Go.Proofs.YtkdienebinnopaaDoor
