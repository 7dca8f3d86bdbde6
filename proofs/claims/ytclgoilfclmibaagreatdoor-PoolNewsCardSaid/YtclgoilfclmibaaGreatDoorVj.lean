/-
  Pool: PoolSelects: which cards are selected.
-/
import Derived.Test.YtclgoilfclmibaaGreatDoorVi
set_option linter.unusedVariables false
set_option linter.unusedSimpArgs false
namespace Go.Proofs.YtclgoilfclmibaaGreatDoor
open Go Go.RowKit Go.Zn
attribute [local go_sem] Oper.semAt_some

theorem light_sm {l : List Crd} (h : lightF l = true) (hkeys : ∀ c ∈ l, -9223372036854775808 ≤ c.keys ∧ c.keys ≤ 9223372036854775807) : l.length ≤ 30 ∧ ∀ c ∈ l, Sm c := by
  have hl := lightF_out h
  exact ⟨hl.1, fun c hc => ⟨by have := hl.2 c hc; omega, by have := hl.2 c hc; omega, by have := hl.2 c hc; omega, fun t ht => by have := (hl.2 c hc).2.2.2 t ht; omega, (hkeys c hc).1, (hkeys c hc).2⟩⟩
set_option maxRecDepth 100000 in
set_option maxHeartbeats 16000000 in
theorem poolselects_any {l : List Crd} (hkeys : ∀ c ∈ l, -9223372036854775808 ≤ c.keys ∧ c.keys ≤ 9223372036854775807) {w : World} {B : Nat → Prop} {vl : Value} (hl : CrdsAt w B vl l) (k r : Int) :
    Calls Tryz.prog 4 #[vl, .int .i64 k, .int .i64 r] w fun e w' => e = .returned (.bool true) ∧ Kept No w w' := by
  have HLT := Lib.hid (light_any hl)
  have HL := Lib.hid (fun W (hk : Kept No w W) => hl.no hk)
  cases hlf : lightF l
  · rw [hlf] at HLT
    clear hl hkeys hlf
    go_enter Tryz.func4, Tryz.ntmps4
    go_wp2_with fail
    refine HLT.out.mono ?_
    rintro e w1 ⟨rfl, hk⟩
    have HK1 := Lib.hid hk
    clear hk
    go_wp2_with fail
    refine (known_any _).mono ?_
    rintro e w99 ⟨rfl, hk99⟩
    have HK99 := Lib.hid hk99
    clear hk99
    go_wp2_with fail
    go_ret
    exact ⟨rfl, HK1.out.and HK99.out⟩
  have HLM := Lib.hid (show l.length ≤ 1000000 by have := (light_sm hlf hkeys).1; omega)
  have HSM := Lib.hid (light_sm hlf hkeys).2
  rw [hlf] at HLT
  obtain ⟨er, her⟩ : ∃ er, wrongF l = er := ⟨_, rfl⟩
  have HER := Lib.hid her
  have HWR := Lib.hid (fun W (hk : Kept No w W) => rwrong_any HLM.out HSM.out (hl.no hk))
  rw [her] at HWR
  clear hl hkeys hlf her
  go_enter Tryz.func4, Tryz.ntmps4
  go_wp2_with fail
  refine HLT.out.mono ?_
  rintro e w1 ⟨rfl, hk⟩
  have HK1 := Lib.hid hk
  clear hk
  go_wp2_with fail
  refine (HWR.out _ HK1.out).mono ?_
  rintro e w2 ⟨rfl, hk⟩
  have HK2 := Lib.hid (HK1.out.and hk)
  clear hk
  by_cases h0 : er = 0
  rotate_left
  · have dw : (er != 0) = true := by simpa using h0
    clear h0
    go_wp2_with fail
    refine (known_any _).mono ?_
    rintro e w99 ⟨rfl, hk99⟩
    have HK99 := Lib.hid hk99
    clear hk99
    go_wp2_with fail
    go_ret
    exact ⟨rfl, HK2.out.and HK99.out⟩
  subst h0
  go_wp2_with fail
  refine (pnew_any HLM.out HSM.out (HL.out _ HK2.out)).mono ?_
  rintro e w3 ⟨hk3, ⟨_, p, rfl, hp⟩ | ⟨hw8, _⟩⟩
  rotate_left
  · exact absurd HER.out hw8
  obtain ⟨pg, pm, pv, rfl, hpis⟩ := hp
  have HP3 := Lib.hid (show PoolAt w3 (fun _ => True) (.pointer (some ⟨pg, 0, none⟩)) l from PoolAt.mono ⟨pg, pm, pv, rfl, hpis⟩ (fun _ _ _ => trivial))
  have HK3 := Lib.hid (HK2.out.and hk3)
  clear hk3 hpis
  go_wp2_with fail
  refine (select_any k r HP3.out HLM.out).mono ?_
  rintro e w4 ⟨v4, rfl, h4, hk4⟩
  have HK4 := Lib.hid (HK3.out.and hk4)
  have HP4 := Lib.hid (HP3.out.no hk4)
  have H4 := Lib.hid h4
  clear hk4 h4
  go_wp2_with fail
  refine (rselect_any k r (HL.out _ HK4.out) HLM.out).mono ?_
  rintro e w5 ⟨v5, rfl, h5, hk5⟩
  have HK5 := Lib.hid (HK4.out.and hk5)
  have HP5 := Lib.hid (HP4.out.no hk5)
  have HS5 := Lib.hid (isame_any (by have := sel_le l k r; have := HLM.out; omega) (rd_no (rd_owned H4.out) hk5) (rd_owned h5))
  clear hk5 h5
  go_wp2_with fail
  refine HS5.out.mono ?_
  rintro e w6 ⟨rfl, q, hq⟩
  have hk6 : Kept No w5 w6 := by rw [hq]; exact (Kept.refl No w5).drewN q
  have HK6 := Lib.hid (HK5.out.and hk6)
  have HP6 := Lib.hid (HP5.out.no hk6)
  clear hk6 hq
  go_wp2_with fail
  refine (select_any 0 0 HP6.out HLM.out).mono ?_
  rintro e w7 ⟨v7, rfl, h7, hk7⟩
  have HK7 := Lib.hid (HK6.out.and hk7)
  have H7 := Lib.hid h7
  clear hk7 h7
  go_wp2_with fail
  refine (rselect_any 0 0 (HL.out _ HK7.out) HLM.out).mono ?_
  rintro e w8 ⟨v8, rfl, h8, hk8⟩
  have HK8 := Lib.hid (HK7.out.and hk8)
  have HS8 := Lib.hid (isame_any (by have := sel_le l 0 0; have := HLM.out; omega) (rd_no (rd_owned H7.out) hk8) (rd_owned h8))
  clear hk8 h8
  go_wp2_with fail
  refine HS8.out.mono ?_
  rintro e w9 ⟨rfl, q9, hq9⟩
  have hk9 : Kept No w8 w9 := by rw [hq9]; exact (Kept.refl No w8).drewN q9
  have HK9 := Lib.hid (HK8.out.and hk9)
  clear hk9 hq9
  go_wp2_with fail
  refine (known_any _).mono ?_
  rintro e w99 ⟨rfl, hk99⟩
  have HK99 := Lib.hid hk99
  clear hk99
  go_wp2_with fail
  go_ret
  exact ⟨rfl, HK9.out.and HK99.out⟩
end Go.Proofs.YtclgoilfclmibaaGreatDoor
